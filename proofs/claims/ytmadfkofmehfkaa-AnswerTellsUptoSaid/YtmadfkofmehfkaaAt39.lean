/-
  answer.Show of any answer. No condition but how it lies, and how great it is.
-/
import Derived.Test.YtmadfkofmehfkaaAt30
import Derived.Test.YtmadfkofmehfkaaAt4
import Derived.Test.YtmadfkofmehfkaaAt24
namespace Go.Proofs.Ytmadfkofmehfkaa
open Go.RowKit

theorem Bo.b5 {w : World} {q : Nat} {t : TypeId} {c0 c1 c2 c3 c4 : Value} (h : Bo w q t #[c0, c1, c2, c3, c4]) : w.cell? ⟨q, 0, none⟩ = some c0 ∧ w.cell? ⟨q, 1, none⟩ = some c1 ∧ w.cell? ⟨q, 2, none⟩ = some c2 ∧ w.cell? ⟨q, 3, none⟩ = some c3 ∧ w.cell? ⟨q, 4, none⟩ = some c4 :=
  ⟨h.cell (j := 0) rfl, h.cell (j := 1) rfl, h.cell (j := 2) rfl, h.cell (j := 3) rfl, h.cell (j := 4) rfl⟩
def nameA (names : List ByteArray) (k : Nat) : ByteArray := (names[k]?).getD ⟨#[63]⟩
def lineS (s name shown : ByteArray) : ByteArray := s ++ (((name ++ ⟨#[32, 61, 32]⟩) ++ shown) ++ ⟨#[44, 32]⟩)
/-- The first lines of an answer's text. -/
def txtA (names : List ByteArray) (ts : List Tm) : Nat → ByteArray
  | 0 => ⟨#[]⟩
  | k + 1 => lineS (txtA names ts k) (nameA names k) (((ts[k]?).map showM).getD ⟨#[]⟩)
theorem txtA_at {names : List ByteArray} {ts : List Tm} {k : Nat} {t : Tm} (h : ts[k]? = some t) : txtA names ts (k + 1) = lineS (txtA names ts k) (nameA names k) (showM t) := by rw [txtA, h]; rfl
def showA (names : List ByteArray) (x : Ans) : ByteArray := txtA names x.binds x.binds.length ++ showM x.value
theorem nameA_size {names : List ByteArray} (h : ∀ s ∈ names, s.size ≤ 1048576) (k : Nat) : (nameA names k).size ≤ 1048576 := by
  unfold nameA
  cases hk : names[k]? with
  | none => decide
  | some s => exact h s (List.mem_of_getElem? hk)
theorem txtA_size {names : List ByteArray} {ts : List Tm} (h : ∀ s ∈ names, s.size ≤ 1048576) (ht : ∀ t ∈ ts, (showM t).size ≤ 31457280) : ∀ k, (txtA names ts k).size ≤ 40000000 * k
  | 0 => by rw [txtA]; decide
  | k + 1 => by
    have ih := txtA_size h ht k
    have h1 := nameA_size h k
    have h2 : (((ts[k]?).map showM).getD ⟨#[]⟩).size ≤ 31457280 := by
      cases hk : ts[k]? with
      | none => decide
      | some t => exact ht t (List.mem_of_getElem? hk)
    rw [txtA, lineS, ByteArray.size_append, ByteArray.size_append, ByteArray.size_append, ByteArray.size_append]
    have e1 : (⟨#[32, 61, 32]⟩ : ByteArray).size = 3 := rfl
    have e2 : (⟨#[44, 32]⟩ : ByteArray).size = 2 := rfl
    omega
theorem show_small {t : Tm} (hok : t.ok) (hw : t.wt ≤ 1048576) : (showM t).size ≤ 31457280 := by have := showM_size hok; omega
/-- What is asked of an answer that is shown. -/
def Ans.shows (x : Ans) : Prop := (∀ t ∈ x.all, t.ok) ∧ Tm.wts x.all ≤ 1048576 ∧ x.binds.length ≤ 1000
theorem Ans.shows.term {x : Ans} (h : x.shows) {t : Tm} (ht : t ∈ x.all) : t.ok ∧ t.wt ≤ 1048576 := ⟨h.1 t ht, Nat.le_trans (Tm.wts_mem ht) h.2.1⟩
theorem Ans.shows.bind {x : Ans} (h : x.shows) {t : Tm} (ht : t ∈ x.binds) : t.ok ∧ t.wt ≤ 1048576 := h.term (List.mem_append_left _ ht)
theorem Ans.shows.val {x : Ans} (h : x.shows) : x.value.ok ∧ x.value.wt ≤ 1048576 := h.term (List.mem_append_right _ (List.mem_singleton_self _))

set_option maxRecDepth 100000 in
set_option maxHeartbeats 20000000 in
theorem ansShow_any {names : List ByteArray} {x : Ans} {an pb px : Option Addr} {nn cn npb cpb npx cpx : Nat} (w : World) (hn : MemW w (.s 1 (strRows names)) (.slice an nn cn)) (hx : AnsW w x pb npb cpb px npx cpx) (hs : x.shows) (hns : ∀ s ∈ names, s.size ≤ 1048576) :
    Calls Try.prog 29 #[.slice an nn cn, .agg #[.slice pb npb cpb, .int .i64 x.value.kind, .string x.value.name, .int .i64 x.value.n, .slice px npx cpx]] w fun e w' => e = .returned (.string (showA names x)) ∧ Below w.heap.size w w' := by
  have hnl := hn.len
  rw [strRows_len] at hnl
  have HNL := Lib.hid hnl.1
  have hncap := hnl.2.1
  have hnmx := hnl.2.2
  have hbl := hx.1.len
  rw [Tm.rows_len] at hbl
  have HBL := Lib.hid hbl.1
  have hbcap := hbl.2.1
  have hbmx := hbl.2.2
  have HB0 := Lib.hid (below_new w (.cells #[.slice pb npb cpb, .int .i64 x.value.kind, .string x.value.name, .int .i64 x.value.n, .slice px npx cpx] 48))
  have HX := Lib.hid (Bo.new w 48 #[.slice pb npb cpb, .int .i64 x.value.kind, .string x.value.name, .int .i64 x.value.n, .slice px npx cpx])
  have HXW := Lib.hid (hx.keep HB0.out)
  have HN := Lib.hid (MemW.keep hn HB0.out)
  have HS := Lib.hid hs
  have HTX := Lib.hid (txtA_size (ts := x.binds) hns (fun t ht => show_small (hs.bind ht).1 (hs.bind ht).2))
  have HNS := Lib.hid (nameA_size hns)
  have HB1000 := Lib.hid hs.2.2
  have HF := Lib.hid (show showA names x = txtA names x.binds npb ++ showM x.value by rw [← hbl.1]; rfl)
  obtain ⟨x0, x1, x2, x3, x4⟩ := HX.out.b5
  clear hn hx hs hns hnl hbl
  go_enter Try.func29, Try.ntmps29
  go_wp2
  clear x0 x1 x2 x3 x4
  generalize hW : w.alloc (.cells #[.slice pb npb cpb, .int .i64 x.value.kind, .string x.value.name, .int .i64 x.value.n, .slice px npx cpx] 48) = wa at *
  clear hW
  go_loopw [5, 12] (fun s i wr => ∃ k : Nat, k ≤ npb ∧ i = .int .i64 k ∧ s = .string (txtA names x.binds k) ∧ Hid (Below wa.heap.size wa wr)) (fun _ i _ => npb - (intOf i).toNat)
  case atStart => exact ⟨0, Nat.zero_le _, rfl, rfl, Lib.hid (Below.refl _ _)⟩
  case round =>
    obtain ⟨k, hk, rfl, rfl, HB⟩ := hrel
    have HB2 := Lib.hid (HB0.out.trans (HB.out.mono HB0.out.size))
    have HX1 := Lib.hid (HX.out.keep HB.out)
    have hq1 := HX1.out.lt
    have hst : (txtA names x.binds k).size ≤ 40000000000 := by have h1 := HTX.out k; have h2 := HB1000.out; have h3 := HBL.out; omega
    by_cases hlt : k < npb
    · have hltz : (k : Int) < (npb : Int) := by omega
      obtain ⟨b, ob, t, at_, nt, ct, rfl, hbB, Ht, t0, t1, t2, t3, GT⟩ := tm_at (MemW.keep HXW.out.1 HB.out) k hlt
      have hm := HS.out.bind (mem_of_at Ht.out)
      have hsh := show_small hm.1 hm.2
      have HC := Lib.hid (showMt hm.1 hm.2 (wr.alloc (.cells #[.int .i64 t.kind, .string t.name, .int .i64 t.n, .slice at_ nt ct] 24)) at_ nt ct (MemW.alloc GT.out (.cells #[.int .i64 t.kind, .string t.name, .int .i64 t.n, .slice at_ nt ct] 24)))
      have HL := Lib.hid (txtA_at (names := names) Ht.out)
      have HBA := Lib.hid (HB.out.alloc HB.out.size (.cells #[.int .i64 t.kind, .string t.name, .int .i64 t.n, .slice at_ nt ct] 24))
      have hnm := HNS.out k
      clear GT hm
      generalize showM t = sh at *
      generalize txtA names x.binds k = st at *
      have i1 : (sh.size : Int) ≤ 1000000000 := by omega
      have i2 : (st.size : Int) ≤ 40000000000 := by omega
      by_cases hkn : k < nn
      · have hkz : (k : Int) < (nn : Int) := by omega
        obtain ⟨b2, o2, nm, rfl, hbB2, Hnm, n0⟩ := str_at (MemW.keep HN.out HB.out) k hkn
        have HNM := Lib.hid (show nameA names k = nm by unfold nameA; rw [Hnm.out]; rfl)
        rw [HNM.out] at HL hnm
        have n1 := cell_below n0 (below_new wr (.cells #[.int .i64 t.kind, .string t.name, .int .i64 t.n, .slice at_ nt ct] 24))
        have i3 : (nm.size : Int) ≤ 2000000 := by omega
        clear hnm hsh hst
        go_wp2_with fail
        refine HC.out.mono ?_
        rintro e w4 ⟨rfl, hb⟩
        have HB4 := Lib.hid (HBA.out.trans (hb.mono HBA.out.size))
        clear hb n0 n1
        go_wp2_with fail
        go_roundw
        case rel => exact ⟨k + 1, by omega, by go_num, by rw [HL.out]; rfl, HB4⟩
        case measure => simp [intOf]; omega
      · have hkz : ¬ (k : Int) < (nn : Int) := by omega
        have HNM := Lib.hid (show nameA names k = ⟨#[63]⟩ by unfold nameA; rw [List.getElem?_eq_none (by have := HNL.out; omega)]; rfl)
        rw [HNM.out] at HL
        clear hnm hsh hst
        go_wp2_with fail
        refine HC.out.mono ?_
        rintro e w4 ⟨rfl, hb⟩
        have HB4 := Lib.hid (HBA.out.trans (hb.mono HBA.out.size))
        clear hb
        go_wp2_with fail
        go_roundw
        case rel => exact ⟨k + 1, by omega, by go_num, by rw [HL.out]; rfl, HB4⟩
        case measure => simp [intOf]; omega
    · obtain rfl : k = npb := by omega
      have hltz : ¬ (k : Int) < (k : Int) := by omega
      have HC := Lib.hid (showMt HS.out.val.1 HS.out.val.2 wr px npx cpx (MemW.keep HXW.out.2 HB.out))
      have hsh := show_small HS.out.val.1 HS.out.val.2
      obtain ⟨x0, x1, x2, x3, x4⟩ := HX1.out.b5
      generalize showM x.value = sh at *
      generalize txtA names x.binds k = st at *
      have i1 : (sh.size : Int) ≤ 1000000000 := by omega
      have i2 : (st.size : Int) ≤ 40000000000 := by omega
      clear hsh hst
      go_wp2_with fail
      refine HC.out.mono ?_
      rintro e w4 ⟨rfl, hb⟩
      have HB4 := Lib.hid (HB2.out.trans (hb.mono HB2.out.size))
      clear hb
      go_wp2_with fail
      go_ret
      exact ⟨by rw [HF.out]; rfl, HB4.out⟩
end Go.Proofs.Ytmadfkofmehfkaa
