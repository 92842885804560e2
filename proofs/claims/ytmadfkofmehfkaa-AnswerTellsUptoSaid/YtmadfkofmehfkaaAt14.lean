/-
  Arguments that are texts' lists, types' lists, types, as the walks want them. No condition.
-/
import Derived.Test.YtmadfkofmehfkaaAt13
import Derived.Test.YtmadfkofmehfkaaAt4
namespace Go.Proofs.Ytmadfkofmehfkaa
open Go.ChangeShapes Go.WideShapes Go.ChangeAt Go.RowKit
section
variable {H : Type} {enc : TypeId × Value → H} {P : Program} {W : World} {r : Reach} {b0 : Nat} {v : Value} {d : DataW H} {ps : List MemPlace}
/-- A list of texts that is read. -/
theorem open_strs_of {t e : TypeId} {fuel : Nat} {cs : List Value} {x : DataW H × List MemPlace} (ut : P.underlying t = some (.slice e)) (ue : P.underlying e = some .string) (ce : P.cellsOf e = 1) (h : DataW.trod enc P W 0 (fun _ => true) true fuel t cs = some x) :
    ∃ (l : List ByteArray) (a : Option Addr) (n cap : Nat), cs = [.slice a n cap] ∧ MemW W (.s 1 (strRows l)) (.slice a n cap) ∧ (∀ s ∈ l, s.size ≤ Rows.uptoBulk x.1) ∧ l.length ≤ Rows.uptoBulk x.1 := by
  rcases DataW.trod_slice ut h with ⟨rfl, rfl⟩ | ⟨a, len, cap, elems, rest, n, rfl, rfl, rfl, _, hle, hm, hlen, hel, _, _⟩
  · exact ⟨[], none, 0, 0, rfl, .e _ _ _ (by decide), by simp, by simp⟩
  · unfold maxLen at hm
    have hb : ∀ (l : List (DataW H)), l.length ≤ Rows.uptoBulkAll l ∧ ∀ d ∈ l, Rows.uptoBulk d ≤ Rows.uptoBulkAll l := by
      intro l
      induction l with
      | nil => simp
      | cons d l ih =>
        rw [Rows.uptoBulkAll]
        have h1 : 1 ≤ Rows.uptoBulk d := by cases d with
          | lit q => cases q <;> simp [Rows.uptoBulk]
          | _ => simp [Rows.uptoBulk]
        refine ⟨by have := ih.1; rw [List.length_cons]; omega, fun d' hd => ?_⟩
        rcases List.mem_cons.1 hd with rfl | hd
        · omega
        · have := ih.2 d' hd; omega
    have key : ∀ i, i < len → ∃ s : ByteArray, (∃ hi : i < elems.length, s.size ≤ Rows.uptoBulk (elems[i]).1) ∧ W.cell? (a.add i) = some (.string s) := fun i hi => by
      have he := hel i hi
      rw [ce, List.getElem?_eq_getElem (by omega)] at he
      obtain ⟨cs', h1, h2⟩ := Option.bind_eq_some_iff.1 he
      obtain ⟨s, rfl, e2, hs⟩ := DataW.trod_string ue h2
      obtain ⟨_, hl, hc⟩ := World.cells?_some h1
      have := hc 0 (by omega)
      rw [Nat.mul_one] at this
      refine ⟨s, ⟨by omega, ?_⟩, ?_⟩
      · rw [e2]; simp only [Rows.uptoBulk, Array.length_toList]; show s.size ≤ s.size + 1; omega
      · have e : ((a.add i).add 0) = a.add i := by unfold Addr.add; split <;> simp_all
        rw [e] at this; simpa using this
    obtain ⟨l, hl, hr⟩ := choose_list len key
    refine ⟨l, some a, len, cap, rfl, ?_, fun s hs => ?_, ?_⟩
    · by_cases h0 : len = 0
      · subst h0
        have : l = [] := List.eq_nil_of_length_eq_zero hl
        subst this
        exact .e _ _ _ (by omega)
      · obtain ⟨b, o, rfl⟩ : ∃ b o, a = ⟨b, o, none⟩ := by
          obtain ⟨s, _, hc⟩ := key 0 (by omega)
          have e : a.add 0 = a := by obtain ⟨b, o, c⟩ := a; cases c <;> simp [Addr.add]
          rw [e] at hc
          exact tm_plain hc
        have hbl : b < W.heap.size := by
          obtain ⟨s, _, hc⟩ := key 0 (by omega)
          rw [plain_add] at hc
          exact World.block_lt_of_cell? W _ hc
        refine .s b o len cap 1 _ (fun i _ => (W.cell? ⟨b, o + i, none⟩).getD undef) (by rw [strRows_len, hl]) hle (by omega) hbl (fun i hi => by simp [strRows]) (fun i j hi hj => ?_) (fun i j hi hj => ?_)
        · obtain rfl : j = 0 := by omega
          obtain ⟨_, hc⟩ := hr i (by omega)
          rw [plain_add] at hc
          rw [Nat.mul_one, Nat.add_zero, hc]; rfl
        · have hi' : i < l.length := by rw [strRows_len] at hi; exact hi
          have e : (strRows l)[i] = [.v (.string l[i])] := by simp [strRows]
          obtain ⟨_, hc⟩ := hr i hi'
          rw [plain_add] at hc
          have hj0 : j = 0 := by have := hj; simp [e] at this; exact this
          subst hj0
          simp only [e, hc, Option.getD_some, List.getElem_cons_zero]
          exact .v _ rfl
    · obtain ⟨i, hi, rfl⟩ := List.getElem_of_mem hs
      obtain ⟨⟨hi', h1⟩, _⟩ := hr i hi
      have := (hb (elems.map (·.1))).2 (elems[i]).1 (List.mem_map.2 ⟨_, List.getElem_mem hi', rfl⟩)
      simp only [Rows.uptoBulk]; omega
    · have := (hb (elems.map (·.1))).1
      simp only [Rows.uptoBulk, List.length_map] at this ⊢; omega

theorem open_strs_arg {t e : TypeId} (ut : P.underlying t = some (.slice e)) (ue : P.underlying e = some .string) (ce : P.cellsOf e = 1) (hval : Value.okWide P W r b0 t v) (h : DataW.Trod enc P W 0 (fun _ => true) true t v d ps) :
    ∃ (l : List ByteArray) (a : Option Addr) (n cap : Nat), v = .slice a n cap ∧ MemW W (.s 1 (strRows l)) (.slice a n cap) ∧ l.length ≤ Rows.uptoBulk d := by
  obtain ⟨a0, len, cap, rfl⟩ := okWide_slice ut hval
  obtain ⟨fuel, hf⟩ := h
  obtain ⟨l, a, n, c, hcs, hm, _, hl⟩ := open_strs_of ut ue ce hf
  simp [Value.cells] at hcs
  obtain ⟨rfl, rfl, rfl⟩ := hcs
  exact ⟨l, _, _, _, rfl, hm, hl⟩
theorem open_tms_arg {tT tS : TypeId} {f0 f1 f2 f3 : Field} (uS : P.underlying tS = some (.slice tT)) (uT : P.underlying tT = some (.struct #[f0, f1, f2, f3])) (u0 : P.underlying f0.type = some (.int .i64)) (u1 : P.underlying f1.type = some .string) (u2 : P.underlying f2.type = some (.int .i64)) (u3 : P.underlying f3.type = some (.slice tT)) (c4 : P.cellsOf tT = 4)
    (o : f0.offset = 0 ∧ f1.offset = 1 ∧ f2.offset = 2 ∧ f3.offset = 3) (c : P.cellsOf f0.type = 1 ∧ P.cellsOf f1.type = 1 ∧ P.cellsOf f2.type = 1 ∧ P.cellsOf f3.type = 1) (hval : Value.okWide P W r b0 tS v) (h : DataW.Trod enc P W 0 (fun _ => true) true tS v d ps) :
    ∃ (ts : List Tm) (a : Option Addr) (n cap : Nat), v = .slice a n cap ∧ MemW W (.s 4 (Tm.rows ts)) (.slice a n cap) ∧ (∀ t ∈ ts, t.ok) ∧ Tm.wts ts ≤ Rows.uptoBulk d := by
  obtain ⟨a0, len, cap, rfl⟩ := okWide_slice uS hval
  obtain ⟨fuel, hf⟩ := h
  obtain ⟨ts, a, n, cc, hcs, hm, hok, hwt⟩ := open_tms_of uS c4 (fun n _ => open_tm_any uT u0 u1 u2 u3 c4 o.1 o.2.1 o.2.2.1 o.2.2.2 c.1 c.2.1 c.2.2.1 c.2.2.2 n) hf
  simp [Value.cells] at hcs
  obtain ⟨rfl, rfl, rfl⟩ := hcs
  exact ⟨ts, _, _, _, rfl, hm, hok, hwt⟩
theorem open_tm_arg {tT : TypeId} {f0 f1 f2 f3 : Field} (uT : P.underlying tT = some (.struct #[f0, f1, f2, f3])) (u0 : P.underlying f0.type = some (.int .i64)) (u1 : P.underlying f1.type = some .string) (u2 : P.underlying f2.type = some (.int .i64)) (u3 : P.underlying f3.type = some (.slice tT)) (c4 : P.cellsOf tT = 4)
    (o : f0.offset = 0 ∧ f1.offset = 1 ∧ f2.offset = 2 ∧ f3.offset = 3) (c : P.cellsOf f0.type = 1 ∧ P.cellsOf f1.type = 1 ∧ P.cellsOf f2.type = 1 ∧ P.cellsOf f3.type = 1) (hval : Value.okWide P W r b0 tT v) (h : DataW.Trod enc P W 0 (fun _ => true) true tT v d ps) :
    ∃ (t : Tm) (a : Option Addr) (n cap : Nat), v = .agg #[.int .i64 t.kind, .string t.name, .int .i64 t.n, .slice a n cap] ∧ MemW W (.s 4 (Tm.rows t.args)) (.slice a n cap) ∧ t.ok ∧ t.wt ≤ Rows.uptoBulk d := by
  obtain ⟨cs, rfl, _⟩ := okWide_struct uT hval
  obtain ⟨fuel, hf⟩ := h
  obtain ⟨t, a, n, cap, hcs, hm, hok, hwt⟩ := open_tm_any uT u0 u1 u2 u3 c4 o.1 o.2.1 o.2.2.1 o.2.2.2 c.1 c.2.1 c.2.2.1 c.2.2.2 fuel _ _ hf
  have : cs = #[.int .i64 t.kind, .string t.name, .int .i64 t.n, .slice a n cap] := Array.toList_inj.1 hcs
  subst this
  exact ⟨t, a, n, cap, rfl, hm, hok, hwt⟩
end
end Go.Proofs.Ytmadfkofmehfkaa
