/-
  Answers in memory: binds, and a value. Plain lemmas. No condition.
-/
import Derived.Test.YtmadfkofmehfkaaAt3
import Derived.Test.YtmadfkofmehfkaaAt5
import Derived.Test.YtmadfkofmehfkaaAt19
import Derived.Test.YtmadfkofmehfkaaAt6
namespace Go.Proofs.Ytmadfkofmehfkaa
open Go.RowKit

structure Ans where
  binds : List Tm
  value : Tm
def Ans.row (x : Ans) : List At := .s 4 (Tm.rows x.binds) :: x.value.row
def Ans.all (x : Ans) : List Tm := x.binds ++ [x.value]
def ansRows (l : List Ans) : List (List At) := l.map Ans.row
theorem ansRows_len (l : List Ans) : (ansRows l).length = l.length := by simp [ansRows]
theorem ans_len {S : Nat → Prop} {w : World} {l : List Ans} {a : Option Addr} {n cap : Nat} (h : Mem S w (.s 5 (ansRows l)) (.slice a n cap)) : l.length = n ∧ n ≤ cap ∧ cap ≤ 9223372036854775807 := by
  have := Mem.len h; rw [ansRows_len] at this; exact this
theorem ans_at {S : Nat → Prop} {w : World} {l : List Ans} {a : Option Addr} {n cap : Nat} (h : Mem S w (.s 5 (ansRows l)) (.slice a n cap)) (i : Nat) (hi : i < n) :
    ∃ b o x ab nb cb a' n' cap', a = some ⟨b, o, none⟩ ∧ S b ∧ Hid (l[i]? = some x) ∧ w.cell? ⟨b, o + i * 5, none⟩ = some (.slice ab nb cb) ∧ w.cell? ⟨b, o + i * 5 + 1, none⟩ = some (.int .i64 x.value.kind) ∧ w.cell? ⟨b, o + i * 5 + 2, none⟩ = some (.string x.value.name) ∧ w.cell? ⟨b, o + i * 5 + 3, none⟩ = some (.int .i64 x.value.n) ∧ w.cell? ⟨b, o + i * 5 + 4, none⟩ = some (.slice a' n' cap') ∧ Hid (Mem S w (.s 4 (Tm.rows x.binds)) (.slice ab nb cb)) ∧ Hid (Mem S w (.s 4 (Tm.rows x.value.args)) (.slice a' n' cap')) := by
  have hl := h.len.1
  rw [ansRows_len] at hl
  have hi' : i < l.length := by omega
  obtain ⟨b, o, ha, hS, _, cs, h2, hc⟩ := Mem.at h i (by rw [ansRows_len]; exact hi')
  have e : (ansRows l)[i]'(by rw [ansRows_len]; exact hi') = (l[i]).row := by simp [ansRows]
  rw [e] at h2
  unfold Ans.row at h2
  cases h2 with
  | cons g0 h2 =>
    obtain ⟨ab, nb, cb, rfl, _⟩ := g0.parts
    obtain ⟨a', n', cap', rfl, h3⟩ := row_cells h2
    exact ⟨b, o, l[i], ab, nb, cb, a', n', cap', ha, hS, Lib.hid (List.getElem?_eq_getElem hi'), hc 0 (by simp), hc 1 (by simp), hc 2 (by simp), hc 3 (by simp), hc 4 (by simp), Lib.hid g0, Lib.hid h3⟩

/-- Whether answers are few, and small. -/
def fewA (l : List Ans) : Bool := l.all (fun x => fewB x.all) && decide (l.length ≤ 10)
theorem ans_app1 {W0 wx : World} {rs : List (List At)} {a : Option Addr} {m c : Nat} (hD : Dr W0 wx) (hM : MemW W0 (.s 4 rs) (.slice a m c)) (hm : rs.length ≤ 1048576) :
    ∃ v' w', (Builtin.append_ #[22, 22] 22 #[.slice none 0 0, .slice a m c]).run Try.prog wx = .ok v' w' ∧ (∃ a' c', v' = .slice a' rs.length c' ∧ OwnD W0.heap.size W0.heap.size 24 4 w' v' rs ∧ Below W0.heap.size W0 w') := by
  have hB0 : Below W0.heap.size W0 wx := hD.below (Below.refl _ _)
  have hs : wx.heap.size = W0.heap.size := by rw [hD.1]
  obtain ⟨v', w', hr, h2, h3, _⟩ := run_append_D2 (P := Try.prog) 22 Try.underlying22 info_term rfl (by decide) (OwnD.nil W0.heap.size W0.heap.size 24 4 wx) (hM.mono (fun b hb => ⟨⟨by omega, by rw [hs]; exact hb⟩, fun e => by cases e⟩) fun b hb => hB0.block b hb) (by simp only [List.length_nil]; omega) (by simp only [List.length_nil]; omega) (by omega)
  obtain ⟨a', c', rfl, _, _⟩ := h2.form
  refine ⟨_, w', hr, a', c', by simp, by simpa using h2, grown_below hB0 h3 (Nat.le_refl _) fun k hk => by cases hk⟩
theorem ans_app2 {W1 wx : World} {base : Nat} {x : Tm} {ax : Option Addr} {nx capx : Nat} {rs : List (List At)} {y : Value} (hD : Dr (W1.alloc (.cells #[.int .i64 x.kind, .string x.name, .int .i64 x.n, .slice ax nx capx] 24)) wx) {G : Nat} (hG : G = W1.heap.size)
    (hO : OwnD base base 24 4 W1 y rs) (hX : Mem (· < base) W1 (.s 4 (Tm.rows x.args)) (.slice ax nx capx)) (hb : base ≤ W1.heap.size) (hm : rs.length ≤ 1048576) :
    ∃ v' w', (Builtin.append_ #[22, 22] 22 #[y, .slice (some ⟨G, 0, none⟩) 1 1]).run Try.prog wx = .ok v' w' ∧ (∃ a' c', v' = .slice a' (rs.length + 1) c' ∧ MemW w' (.s 4 (rs ++ Tm.rows [x])) v' ∧ Below base W1 w') := by
  subst hG
  have hs : wx.heap.size = W1.heap.size + 1 := by rw [hD.1, World.size_alloc]
  have hB0 : Below W1.heap.size W1 wx := hD.below (below_new W1 _)
  have hO' : OwnD base base 24 4 wx y rs := hO.keep hB0
  have hO1 := own_one (e' := 24) x hO hb (hO.old (Nat.le_refl _) hb hX)
  have hM : Mem (fun b => Nw base base wx.heap.size b ∧ y.ownBlock ≠ some b) wx (.s 4 (Tm.rows [x])) (.slice (some ⟨W1.heap.size, 0, none⟩) 1 1) := hO1.mono (fun b hb => ⟨by rw [hs]; rw [World.size_alloc] at hb; exact hb.1, hb.2⟩) fun b _ => by rw [hD.1]
  obtain ⟨v', w', hr, h2, h3, _⟩ := run_append_D2 (P := Try.prog) 22 Try.underlying22 info_term rfl (by decide) hO' hM (by simp only [Tm.rows, List.length_cons, List.length_nil]; omega) (by simp only [Tm.rows, List.length_cons, List.length_nil]; omega) (by omega)
  obtain ⟨a', c', rfl, _, _⟩ := h2.form
  exact ⟨_, w', hr, a', c', by simp [Tm.rows], h2.memW, grown_below (hB0.mono hb) h3 hb fun k hk => (hO.lt k hk).1⟩
theorem ans_app3 {W1 wx : World} {base : Nat} {rs new : List (List At)} {y : Value} {a : Option Addr} {m c : Nat} (hD : Dr W1 wx) (hO : OwnD base base 24 4 W1 y rs) (hX : Mem (· < base) W1 (.s 4 new) (.slice a m c)) (hb : base ≤ W1.heap.size) (hm : rs.length + new.length ≤ 1048577) :
    ∃ v' w', (Builtin.append_ #[22, 22] 22 #[y, .slice a m c]).run Try.prog wx = .ok v' w' ∧ (∃ a' c', v' = .slice a' (rs.length + new.length) c' ∧ MemW w' (.s 4 (rs ++ new)) v' ∧ Below base W1 w') := by
  have hs : wx.heap.size = W1.heap.size := by rw [hD.1]
  have hB0 : Below W1.heap.size W1 wx := hD.below (Below.refl _ _)
  have hO' : OwnD base base 24 4 wx y rs := hO.keep hB0
  have hM : Mem (fun b => Nw base base wx.heap.size b ∧ y.ownBlock ≠ some b) wx (.s 4 new) (.slice a m c) := (hO.old (Nat.le_refl _) hb hX).mono (fun b hb => ⟨by rw [hs]; exact hb.1, hb.2⟩) fun b _ => by rw [hD.1]
  obtain ⟨v', w', hr, h2, h3, _⟩ := run_append_D2 (P := Try.prog) 22 Try.underlying22 info_term rfl (by decide) hO' hM (by omega) (by omega) (by omega)
  obtain ⟨a', c', rfl, _, _⟩ := h2.form
  exact ⟨_, w', hr, a', c', by rw [List.length_append], h2.memW, grown_below (hB0.mono hb) h3 hb fun k hk => (hO.lt k hk).1⟩
theorem one_mem {w : World} (x : Tm) {a : Option Addr} {n cap : Nat} (h : MemW w (.s 4 (Tm.rows x.args)) (.slice a n cap)) : MemW (w.alloc (.cells #[.int .i64 x.kind, .string x.name, .int .i64 x.n, .slice a n cap] 24)) (.s 4 (Tm.rows [x])) (.slice (some ⟨w.heap.size, 0, none⟩) 1 1) :=
  (tm_one (B := w.heap.size) (base := w.heap.size) x (Mem.mono h (fun b hb => ⟨.inl hb, hb⟩) fun _ _ => rfl) (Nat.le_refl _)).memW
end Go.Proofs.Ytmadfkofmehfkaa
