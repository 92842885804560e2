/-
  Plain words and lemmas for the walks: how a slice reads in memory, what is kept when memory grows, small facts on lists. No condition.
-/
import Derived.Test.YtppejoccljfblaaRows
import Derived.WalkKit
import Derived.WalkSpells
import Derived.WalkLawsBesides
import Derived.Lib.Hide
import Derived.Lib.Strings
import Derived.Deep.Draws
namespace Go.Proofs.Ytppejoccljfblaa
open Go.RowKit

theorem ret_int {k : IntKind} {a b : Int} (h : a = b) : Ending.returned (.int k a) = .returned (.int k b) := by rw [h]
theorem ret_bool {a b : Bool} (h : a = b) : Ending.returned (.bool a) = .returned (.bool b) := by rw [h]
theorem ret_str {a b : ByteArray} (h : a = b) : Ending.returned (.string a) = .returned (.string b) := by rw [h]

/-- A slice's place, length and capacity read as these cells (sz of them each), in a block below B. -/
def Rd (B : Nat) (w : World) (a : Option Addr) (n cap sz : Nat) (xs : List Value) : Prop :=
  xs.length = n * sz ∧ n ≤ cap ∧ cap ≤ 9223372036854775807 ∧ (n = 0 ∨ ∃ b o, a = some ⟨b, o, none⟩ ∧ b < B ∧ ∀ (j : Nat) (h : j < xs.length), w.cell? ⟨b, o + j, none⟩ = some xs[j])

theorem Rd.mono {B : Nat} {w w' : World} {a : Option Addr} {n cap sz : Nat} {xs : List Value} (h : Rd B w a n cap sz xs) (hb : Below B w w') : Rd B w' a n cap sz xs := by
  obtain ⟨h1, h2, h3, h4⟩ := h
  refine ⟨h1, h2, h3, ?_⟩
  rcases h4 with h4 | ⟨b, o, ha, hbB, hc⟩
  · exact .inl h4
  · exact .inr ⟨b, o, ha, hbB, fun j hj => (hb.cell (p := ⟨b, o + j, none⟩) hbB).trans (hc j hj)⟩

theorem Rd.le {B B' : Nat} {w : World} {a : Option Addr} {n cap sz : Nat} {xs : List Value} (h : Rd B w a n cap sz xs) (hb : B ≤ B') : Rd B' w a n cap sz xs := by
  obtain ⟨h1, h2, h3, h4⟩ := h
  refine ⟨h1, h2, h3, ?_⟩
  rcases h4 with h4 | ⟨b, o, ha, hbB, hc⟩
  · exact .inl h4
  · exact .inr ⟨b, o, ha, Nat.lt_of_lt_of_le hbB hb, hc⟩

/-- Grown worlds keep what was there: in the form that contracts hand on. -/
theorem Below.to {w w' w'' : World} (h : Below w.heap.size w w') (k : Below w'.heap.size w' w'') : Below w.heap.size w w'' := h.trans (k.mono h.size)

theorem take_snoc (s : ByteArray) (k : Nat) (h : k < s.size) : s.data.toList.take (k + 1) = s.data.toList.take k ++ [s[k]] := by
  rw [List.take_succ_eq_append_getElem (by simpa using h)]; rfl
theorem take_all (s : ByteArray) (k : Nat) (h : ¬ k < s.size) : s.data.toList.take k = s.data.toList := List.take_of_length_le (by simp; omega)
theorem mem_byte (s : ByteArray) (k : Nat) (h : k < s.size) : s[k] ∈ s.data.toList := Array.mem_toList_iff.2 (Array.getElem_mem (xs := s.data) h)
theorem size_data (s : ByteArray) : s.data.size = s.size := rfl
theorem length_data (s : ByteArray) : s.data.toList.length = s.size := by rw [Array.length_toList]; rfl
theorem str_eta (s : ByteArray) : (⟨s.data.toList.toArray⟩ : ByteArray) = s := by simp

theorem bytes_beq (a b : ByteArray) : (a == b) = (a.data == b.data) := by cases a; cases b; rfl
instance bytes_lawful : LawfulBEq ByteArray where
  eq_of_beq {a b} h := by rw [bytes_beq, beq_iff_eq] at h; cases a; cases b; simp at h; rw [h]
  rfl {a} := by rw [bytes_beq]; exact beq_self_eq_true _
/-- Two texts are alike: in the walk's spelling, and as texts. -/
theorem toList_beq (a b : ByteArray) : (a.toList == b.toList) = (a == b) := by
  rw [Bool.eq_iff_iff, beq_iff_eq, beq_iff_eq]
  constructor
  · intro h; rw [Lib.toList_data, Lib.toList_data] at h
    cases a; cases b; simp at h; rw [h]
  · intro h; rw [h]
theorem empty_beq (a : ByteArray) : a.toList.isEmpty = (a == ⟨#[]⟩) := by
  rw [← toList_beq, Bool.eq_iff_iff]; simp
theorem beq_comm_bool (a b : ByteArray) (c : Bool) (h : (a == b) = c) : (b == a) = c := by rw [← h, Bool.eq_iff_iff, beq_iff_eq, beq_iff_eq]; exact eq_comm

/-- The place of the first one that is alike, or -1. -/
def idxI {α : Type} [BEq α] (l : List α) (s : α) : Int := if l.any (s == ·) then (l.findIdx (s == ·) : Int) else -1
theorem idxI_at {α : Type} [BEq α] (l : List α) (s : α) (k : Nat) (hk : k < l.length) (h : (s == l[k]) = true) (hn : ∀ (j : Nat) (hj : j < l.length), j < k → (s == l[j]) = false) : idxI l s = k := by
  have ha : l.any (s == ·) = true := by rw [List.any_eq_true]; exact ⟨_, List.getElem_mem hk, h⟩
  rw [idxI, if_pos ha]
  have : l.findIdx (s == ·) = k := (List.findIdx_eq hk).2 ⟨h, fun j hj => hn j (by omega) hj⟩
  rw [this]
theorem idxI_no {α : Type} [BEq α] (l : List α) (s : α) (hn : ∀ (j : Nat) (hj : j < l.length), (s == l[j]) = false) : idxI l s = -1 := by
  have ha : ¬ l.any (s == ·) = true := by
    rw [List.any_eq_true]; rintro ⟨x, hx, hs⟩
    obtain ⟨j, hj, rfl⟩ := List.getElem_of_mem hx
    rw [hn j hj] at hs; cases hs
  rw [idxI, if_neg ha]
theorem idxI_ge {α : Type} [BEq α] (l : List α) (s : α) : decide (0 ≤ idxI l s) = l.any (s == ·) := by
  unfold idxI; split
  · rename_i h; rw [h]; simp
  · rename_i h; simp only [Bool.not_eq_true] at h; rw [h]; rfl
end Go.Proofs.Ytppejoccljfblaa

/-
  More plain lemmas: new blocks read as what was put in. No condition.
-/
namespace Go.Proofs.Ytppejoccljfblaa
open Go.RowKit

theorem rd_new (w : World) (cs : Array Value) (t : TypeId) (n sz : Nat) (h : cs.size = n * sz) (hn : n ≤ 9223372036854775807) :
    Rd (w.heap.size + 1) (w.alloc (.cells cs t)) (some ⟨w.heap.size, 0, none⟩) n n sz cs.toList := by
  refine ⟨by simpa using h, Nat.le_refl _, hn, .inr ⟨w.heap.size, 0, rfl, Nat.lt_succ_self _, fun j hj => ?_⟩⟩
  have hb : (w.alloc (.cells cs t)).heap[w.heap.size]? = some (.cells cs t) := (MapKept.heap_alloc w _).1
  simp only [World.cell?, hb]
  simp at hj ⊢
theorem below_new (w : World) (o : Obj) : Below w.heap.size w (w.alloc o) := (Below.refl _ w).alloc (Nat.le_refl _) o
theorem Below.to1 {w w1 w2 : World} {o : Obj} (h : Below w.heap.size w w1) (k : Below (w1.heap.size + 1) (w1.alloc o) w2) : Below w.heap.size w w2 :=
  (h.alloc h.size o).trans (k.mono (by have := h.size; omega))
theorem below_drewN {B : Nat} {a w : World} (h : Below B a w) (n : Nat) : Below B a (w.drewN n) := ⟨h.os, h.tape, h.output, h.size, h.block⟩
theorem Below.toN {w w1 w2 : World} {n : Nat} (h : Below w.heap.size w w1) (k : Below w1.heap.size (w1.drewN n) w2) : Below w.heap.size w w2 :=
  (below_drewN h n).trans (k.mono h.size)
theorem Below.toA {w w1 w2 : World} {o : Obj} (h : Below w.heap.size w w1) (k : Below (w1.alloc o).heap.size (w1.alloc o) w2) : Below w.heap.size w w2 := Below.to (h.alloc h.size o) k
theorem Below.toAA {w w1 w2 : World} {o o' : Obj} (h : Below w.heap.size w w1) (k : Below ((w1.alloc o).alloc o').heap.size ((w1.alloc o).alloc o') w2) : Below w.heap.size w w2 :=
  Below.to ((h.alloc h.size o).alloc (by rw [World.size_alloc]; have := h.size; omega) o') k
theorem Below.toNA {w w1 w2 : World} {o : Obj} {n : Nat} (h : Below w.heap.size w w1) (k : Below ((w1.alloc o).drewN n).heap.size ((w1.alloc o).drewN n) w2) : Below w.heap.size w w2 :=
  Below.to (below_drewN (h.alloc h.size o) n) k
end Go.Proofs.Ytppejoccljfblaa

/-
  Plain lemmas on cells: what a store does to a cell, what lies beside one block. No condition.
-/
namespace Go.Proofs.Ytppejoccljfblaa
open Go.RowKit

/-- What lay beside one block lies as it lay. -/
theorem grownBy_refl (w : World) (r : Option Nat) : w.grownBy w r := ⟨rfl, rfl, rfl, Nat.le_refl _, fun _ _ _ => rfl⟩
theorem grownBy_trans {w w' w'' : World} {r : Option Nat} (h : w.grownBy w' r) (k : w'.grownBy w'' r) : w.grownBy w'' r :=
  ⟨k.os.trans h.os, k.tape.trans h.tape, k.output.trans h.output, Nat.le_trans h.size k.size, fun i hi hr => (k.block i (Nat.lt_of_lt_of_le hi h.size) hr).trans (h.block i hi hr)⟩
theorem grownBy_setCell (w : World) (g o : Nat) (v : Value) : w.grownBy (w.setCell ⟨g, o, none⟩ v) (some g) :=
  ⟨rfl, rfl, rfl, by simp [World.setCell], fun k _ hk => Below.heap_setCell w ⟨g, o, none⟩ v k (fun e => hk (by rw [e]))⟩
theorem grownBy_drew (w : World) (r : Option Nat) : w.grownBy w.drew r := ⟨rfl, rfl, rfl, Nat.le_refl _, fun _ _ _ => rfl⟩

theorem cell_set_same (w : World) (g o : Nat) (v : Value) (h : (w.cell? ⟨g, o, none⟩).isSome = true) : (w.setCell ⟨g, o, none⟩ v).cell? ⟨g, o, none⟩ = some v := World.cell?_setCell_same' w _ v h
theorem cell_set_other (w : World) (g o j : Nat) (v : Value) (h : j ≠ o) : (w.setCell ⟨g, o, none⟩ v).cell? ⟨g, j, none⟩ = w.cell? ⟨g, j, none⟩ := World.cell?_setCell_other w _ _ _ (fun e => h (by injection e with _ h2; exact h2.symm))
theorem cell_set_far (w : World) (g o j b : Nat) (v : Value) (h : b ≠ g) : (w.setCell ⟨g, o, none⟩ v).cell? ⟨b, j, none⟩ = w.cell? ⟨b, j, none⟩ := World.cell?_setCell_other w _ _ _ (fun e => h (by injection e with h2 _; exact h2.symm))

theorem cell_alloc_old (w : World) (k : Nat) (ob : Obj) (b o : Nat) (h : b < w.heap.size) : ((w.drewN k).alloc ob).cell? ⟨b, o, none⟩ = w.cell? ⟨b, o, none⟩ :=
  ((below_drewN (Below.refl w.heap.size w) k).alloc (Nat.le_refl _) ob).cell (p := ⟨b, o, none⟩) h
/-- The same world, but for what has been drawn. -/
def Dr (w w' : World) : Prop := w'.heap = w.heap ∧ w'.os = w.os ∧ w'.tape = w.tape ∧ w'.output = w.output
theorem Dr.refl (w : World) : Dr w w := ⟨rfl, rfl, rfl, rfl⟩
theorem Dr.below {w w' : World} (h : Dr w w') {B : Nat} {a : World} (k : Below B a w) : Below B a w' :=
  ⟨h.2.1.trans k.os, h.2.2.1.trans k.tape, h.2.2.2.trans k.output, by rw [h.1]; exact k.size, fun i hi => by rw [h.1]; exact k.block i hi⟩
theorem Dr.cell {w w' : World} (h : Dr w w') (a : Addr) : w'.cell? a = w.cell? a := by simp only [World.cell?, h.1]
theorem Dr.frozen {w w' : World} (h : Dr w w') (a : Addr) : w'.frozen? a = w.frozen? a := by simp only [World.frozen?, h.1]
end Go.Proofs.Ytppejoccljfblaa

/-
  The walks of the package chars and of the document's answer for it (whimbrelref01): classes of bytes, words, digits, numbers. No condition but sizes.
-/
namespace Go.Proofs.Ytppejoccljfblaa
open Go.RowKit
attribute [local go_sem] toList_beq empty_beq

def cls (b : Int) : Int :=
  if 97 ≤ b ∧ b ≤ 122 then 1 else if 65 ≤ b ∧ b ≤ 90 then 2 else if 48 ≤ b ∧ b ≤ 57 then 3 else if b = 32 then 4 else if b = 10 then 5
  else if b = 61 ∨ b = 124 ∨ b = 63 ∨ b = 60 ∨ b = 43 ∨ b = 45 ∨ b = 42 ∨ b = 40 ∨ b = 41 ∨ b = 95 then 6 else 0

def hasB (l : List UInt8) (b : Int) : Bool := l.any fun c => (c.toNat : Int) == b
theorem hasB_snoc (l : List UInt8) (c : UInt8) (b : Int) : hasB (l ++ [c]) b = (hasB l b || ((c.toNat : Int) == b)) := by simp [hasB]
theorem hasB_of_mem (s : ByteArray) (b : Int) (k : Nat) (h : k < s.size) (e : ((s[k].toNat : Int) == b) = true) : hasB s.data.toList b = true := by
  simp only [hasB, List.any_eq_true]
  exact ⟨_, mem_byte s k h, e⟩

set_option maxHeartbeats 400000 in
theorem has_any (s : ByteArray) (b : Int) (w : World) (hs : s.size ≤ maxLen) :
    Calls Try.prog 176 #[.string s, .int .u8 b] w fun e w' => e = .returned (.bool (hasB s.data.toList b)) ∧ w = w' := by
  unfold maxLen at hs
  go_enter Try.func176, Try.ntmps176
  go_wp2
  go_loop [5] (fun i => ∃ k : Nat, k ≤ s.size ∧ i = .int .i64 k ∧ hasB (s.data.toList.take k) b = false) (fun i => s.size - (intOf i).toNat)
  case atStart => exact ⟨0, Nat.zero_le _, rfl, rfl⟩
  case round =>
    obtain ⟨k, hk, rfl, hn⟩ := hrel
    have Hn := Lib.hid hn
    clear hn
    by_cases hlt : k < s.size
    · have HS : Hid (hasB (s.data.toList.take (k + 1)) b = (hasB (s.data.toList.take k) b || ((s[k].toNat : Int) == b))) := by rw [take_snoc s k hlt]; exact hasB_snoc _ _ _
      have HM := Lib.hid (hasB_of_mem s b k hlt)
      go_wp2
      · go_ret
        exact ⟨ret_bool (HM.out ‹_›).symm, rfl⟩
      · go_round
        case rel => exact ⟨k + 1, by omega, by go_num, by rw [HS.out, Hn.out]; rename_i hx; rw [hx]; rfl⟩
        case measure => simp [intOf]; omega
    · go_wp2
      go_ret
      exact ⟨ret_bool (by have := Hn.out; rw [take_all s k hlt] at this; exact this.symm), rfl⟩

set_option maxHeartbeats 1000000 in
theorem class_any (b : Int) (w : World) :
    Calls Try.prog 124 #[.int .u8 b] w fun e w' => e = .returned (.int .i64 (cls b)) ∧ w = w' := by
  go_enter Try.func124, Try.ntmps124
  go_wp2
  all_goals (try go_ret)
  all_goals (refine ⟨ret_int ?_, rfl⟩; (try simp only [beq_iff_eq, beq_eq_false_iff_ne, ne_eq] at *); unfold cls; (repeat (first | rw [if_pos (by omega)] | rw [if_neg (by omega)])))

theorem signs (b : Int) : hasB [61, 124, 63, 60, 43, 45, 42, 40, 41, 95] b = decide (b = 61 ∨ b = 124 ∨ b = 63 ∨ b = 60 ∨ b = 43 ∨ b = 45 ∨ b = 42 ∨ b = 40 ∨ b = 41 ∨ b = 95) := by
  rw [Bool.eq_iff_iff]; simp [hasB]; omega

set_option maxHeartbeats 1000000 in
theorem rclass_any (b : Int) (w : World) :
    Calls Try.prog 131 #[.int .u8 b] w fun e w' => e = .returned (.int .i64 (cls b)) ∧ w = w' := by
  go_enter Try.func131, Try.ntmps131
  go_wp2_with (go_at_call 176; refine (has_any _ _ _ (by decide)).mono ?_; rintro e w' ⟨rfl, rfl⟩; simp only [signs])
  all_goals (try go_ret)
  all_goals (refine ⟨ret_int ?_, rfl⟩; (try simp only [beq_iff_eq, beq_eq_false_iff_ne, ne_eq] at *); unfold cls; (repeat (first | rw [if_pos (by omega)] | rw [if_neg (by omega)])))

/-! ### Texts in a list -/
def strs (l : List ByteArray) : List Value := l.map .string

theorem Rd.strAt {B : Nat} {w : World} {a : Option Addr} {n cap : Nat} {l : List ByteArray} (h : Rd B w a n cap 1 (strs l)) (k : Nat) (hk : k < n) :
    ∃ b o, a = some ⟨b, o, none⟩ ∧ ∃ hl : k < l.length, w.cell? ⟨b, o + k, none⟩ = some (.string l[k]) := by
  obtain ⟨h1, h2, h3, h4⟩ := h
  rcases h4 with h4 | ⟨b, o, ha, hbB, hc⟩
  · omega
  · have hl : k < l.length := by simp [strs] at h1; omega
    refine ⟨b, o, ha, hl, ?_⟩
    rw [hc k (by simpa [strs] using hl)]
    simp [strs]
theorem Rd.strLen {B : Nat} {w : World} {a : Option Addr} {n cap : Nat} {l : List ByteArray} (h : Rd B w a n cap 1 (strs l)) : l.length = n := by
  have := h.1; simp [strs] at this; exact this

set_option maxHeartbeats 400000 in
theorem index_str {B n cap : Nat} {a : Option Addr} {l : List ByteArray} (s : ByteArray) (w : World) (h : Rd B w a n cap 1 (strs l)) :
    Calls Try.prog 195 #[.slice a n cap, .string s] w fun e w' => e = .returned (.int .i64 (idxI l s)) ∧ w = w' := by
  have hcap := h.2.1
  have hm := h.2.2.1
  have hlen := h.strLen
  have H := Lib.hid h
  have HL := Lib.hid hlen
  clear h hlen
  go_enter Try.func195, Try.ntmps195
  go_wp2
  go_loop [5, 8] (fun _ i => ∃ k : Nat, k ≤ n ∧ i = .int .i64 k ∧ Hid (∀ (j : Nat) (hj : j < l.length), j < k → (s == l[j]) = false)) (fun _ i => n - (intOf i).toNat)
  case atStart => exact ⟨0, Nat.zero_le _, rfl, fun j hj h0 => by omega⟩
  case round =>
    obtain ⟨k, hk, rfl, Hn⟩ := hrel
    by_cases hlt : k < n
    · obtain ⟨b, o, rfl, hl, hc⟩ := H.out.strAt k hlt
      go_wp2
      · go_ret
        exact ⟨ret_int (idxI_at l s k hl ‹_› Hn.out).symm, rfl⟩
      · go_round
        case rel => exact ⟨k + 1, by omega, by go_num, fun j hj h1 => by rename_i hx; rcases Nat.lt_or_ge j k with h2 | h2; (exact Hn.out j hj h2); (obtain rfl : j = k := by omega); exact hx⟩
        case measure => simp [intOf]; omega
    · go_wp2
      go_ret
      exact ⟨ret_int (idxI_no l s fun j hj => Hn.out j hj (by have := HL.out; omega)).symm, rfl⟩

theorem contains_str {B n cap : Nat} {a : Option Addr} {l : List ByteArray} (s : ByteArray) (w : World) (h : Rd B w a n cap 1 (strs l)) :
    Calls Try.prog 189 #[.slice a n cap, .string s] w fun e w' => e = .returned (.bool (l.any (s == ·))) ∧ w = w' := by
  have H := Lib.hid h
  clear h
  have HG := Lib.hid (idxI_ge l s)
  go_enter Try.func189, Try.ntmps189
  go_wp2_with (go_at_call 195; refine (index_str s _ H.out).mono ?_; rintro e w' ⟨rfl, rfl⟩)
  go_ret
  exact ⟨ret_bool HG.out, rfl⟩

set_option maxHeartbeats 400000 in
theorem in_str {B n cap : Nat} {a : Option Addr} {l : List ByteArray} (s : ByteArray) (w : World) (h : Rd B w a n cap 1 (strs l)) :
    Calls Try.prog 19 #[.slice a n cap, .string s] w fun e w' => e = .returned (.bool (l.any (s == ·))) ∧ w = w' := by
  have hcap := h.2.1
  have hm := h.2.2.1
  have hlen := h.strLen
  have H := Lib.hid h
  have HL := Lib.hid hlen
  clear h hlen
  go_enter Try.func19, Try.ntmps19
  go_wp2
  go_loop [6, 9] (fun _ i => ∃ k : Nat, k ≤ n ∧ i = .int .i64 k ∧ Hid (∀ (j : Nat) (hj : j < l.length), j < k → (s == l[j]) = false)) (fun _ i => n - (intOf i).toNat)
  case atStart => exact ⟨0, Nat.zero_le _, rfl, fun j hj h0 => by omega⟩
  case round =>
    obtain ⟨k, hk, rfl, Hn⟩ := hrel
    by_cases hlt : k < n
    · obtain ⟨b, o, rfl, hl, hc⟩ := H.out.strAt k hlt
      go_wp2
      · go_ret
        refine ⟨ret_bool ?_, rfl⟩
        have hx : (l[k] == s) = true := by assumption
        symm; rw [List.any_eq_true]; exact ⟨_, List.getElem_mem hl, beq_comm_bool _ _ _ hx⟩
      · go_round
        case rel => exact ⟨k + 1, by omega, by go_num, fun j hj h1 => by rename_i hx; rcases Nat.lt_or_ge j k with h2 | h2; (exact Hn.out j hj h2); (obtain rfl : j = k := by omega); exact beq_comm_bool _ _ _ hx⟩
        case measure => simp [intOf]; omega
    · go_wp2
      go_ret
      refine ⟨ret_bool ?_, rfl⟩
      symm; rw [List.any_eq_false]; intro x hx
      obtain ⟨j, hj, rfl⟩ := List.getElem_of_mem hx
      rw [Hn.out j hj (by have := HL.out; omega)]; decide
end Go.Proofs.Ytppejoccljfblaa

/-
  The walks of words: Key, Symbols, word, Word, Name, Upper. No condition but sizes.
-/
namespace Go.Proofs.Ytppejoccljfblaa
open Go.RowKit
attribute [local go_sem] toList_beq empty_beq

def keyWords : List ByteArray := [⟨#[100, 97, 116, 97]⟩, ⟨#[108, 101, 116]⟩, ⟨#[102, 114, 101, 101]⟩, ⟨#[105, 110]⟩, ⟨#[105, 102]⟩, ⟨#[116, 104, 101, 110]⟩, ⟨#[101, 108, 115, 101]⟩]
def isKey (s : ByteArray) : Bool := keyWords.any (s == ·)

theorem key_any (s : ByteArray) (w : World) :
    Calls Try.prog 173 #[.string s] w fun e w' => e = .returned (.bool (isKey s)) ∧ Below w.heap.size w w' := by
  have hb := Lib.hid (below_new w (.cells (strs keyWords).toArray 9))
  go_enter Try.func173, Try.ntmps173
  go_wp2_with (go_at_call 189; refine (contains_str (l := keyWords) s _ (rd_new w (strs keyWords).toArray 9 7 1 rfl (by decide))).mono ?_; rintro e w' ⟨rfl, rfl⟩)
  go_ret
  exact ⟨rfl, hb.out⟩

theorem rkey_any (s : ByteArray) (w : World) :
    Calls Try.prog 132 #[.string s] w fun e w' => e = .returned (.bool (isKey s)) ∧ Below w.heap.size w w' := by
  have hb := Lib.hid (below_new w (.cells (strs keyWords).toArray 9))
  go_enter Try.func132, Try.ntmps132
  go_wp2_with (go_at_call 19; refine (in_str (l := keyWords) s _ (rd_new w (strs keyWords).toArray 9 7 1 rfl (by decide))).mono ?_; rintro e w' ⟨rfl, rfl⟩)
  go_ret
  exact ⟨rfl, hb.out⟩

def symbols : List ByteArray := [⟨#[61, 61]⟩, ⟨#[61]⟩, ⟨#[124]⟩, ⟨#[63]⟩, ⟨#[60]⟩, ⟨#[43]⟩, ⟨#[45]⟩, ⟨#[42]⟩, ⟨#[40]⟩, ⟨#[41]⟩, ⟨#[95]⟩]
theorem symbols_any (w : World) :
    Calls Try.prog 130 #[] w fun e w' => e = .returned (.slice (some ⟨w.heap.size, 0, none⟩) 11 11) ∧ w.alloc (.cells (strs symbols).toArray 9) = w' := by
  go_enter Try.func130, Try.ntmps130
  go_wp2
  go_ret
  exact ⟨rfl, rfl⟩
theorem rsymbols_any (w : World) :
    Calls Try.prog 135 #[] w fun e w' => e = .returned (.slice (some ⟨w.heap.size, 0, none⟩) 11 11) ∧ w.alloc (.cells (strs symbols).toArray 9) = w' := by
  go_enter Try.func135, Try.ntmps135
  go_wp2
  go_ret
  exact ⟨rfl, rfl⟩

def part (c : Int) : Bool := c == 95 || (decide (1 ≤ cls c) && decide (cls c ≤ 3))
def isWord (s : ByteArray) (first : Int) : Bool := decide (0 < s.size) && decide (s.size ≤ 24) && (cls (s.data.toList.getD 0 0).toNat == first) && s.data.toList.all fun c => part c.toNat

theorem cls_range (c : Int) : 0 ≤ cls c ∧ cls c ≤ 6 := by unfold cls; repeat' split <;> try omega


theorem isWord_empty (s : ByteArray) (first : Int) (h : ¬ 0 < s.size) : isWord s first = false := by simp [isWord, h]
theorem isWord_long (s : ByteArray) (first : Int) (h : 24 < s.size) : isWord s first = false := by
  have : ¬ s.size ≤ 24 := by omega
  simp [isWord, this]
theorem getD_zero (s : ByteArray) (h : 0 < s.size) : s.data.toList.getD 0 0 = s[0] := by
  have : 0 < s.data.toList.length := by rw [length_data]; exact h
  rw [List.getD_eq_getElem?_getD, List.getElem?_eq_getElem this]; rfl
theorem isWord_first (s : ByteArray) (first : Int) (h : 0 < s.size) (hc : (cls s[0].toNat == first) = false) : isWord s first = false := by
  unfold isWord; rw [getD_zero s h, hc]; simp
theorem isWord_main (s : ByteArray) (first : Int) (h : 0 < s.size) (h2 : ¬ 24 < s.size) (hc : (cls s[0].toNat == first) = true) : isWord s first = s.data.toList.all fun c => part c.toNat := by
  have h3 : s.size ≤ 24 := by omega
  unfold isWord; rw [getD_zero s h, hc]; simp [h, h3]
theorem all_take_snoc (s : ByteArray) (f : UInt8 → Bool) (k : Nat) (h : k < s.size) : (s.data.toList.take (k + 1)).all f = ((s.data.toList.take k).all f && f s[k]) := by
  rw [take_snoc s k h]; simp
theorem all_of_bad (s : ByteArray) (f : UInt8 → Bool) (k : Nat) (h : k < s.size) (hf : f s[k] = false) : s.data.toList.all f = false := by
  rw [List.all_eq_false]; exact ⟨_, mem_byte s k h, by rw [hf]; decide⟩
theorem part_yes (c : Int) (h : (c == 95) = true ∨ (1 ≤ cls c ∧ cls c ≤ 3)) : part c = true := by
  unfold part; rcases h with h | ⟨h1, h2⟩
  · rw [h]; rfl
  · simp [h1, h2]
theorem part_no (c : Int) (h : (c == 95) = false) (h2 : cls c < 1 ∨ 3 < cls c) : part c = false := by
  unfold part; rw [h]; simp; omega
theorem part_yes' (c : Int) (h : c = 95 ∨ (1 ≤ cls c ∧ cls c ≤ 3)) : part c = true := by
  simp only [part, Bool.or_eq_true, beq_iff_eq, Bool.and_eq_true, decide_eq_true_eq]; omega
theorem part_no' (c : Int) (h : ¬ c = 95 ∧ (cls c < 1 ∨ 3 < cls c)) : part c = false := by
  rw [← Bool.not_eq_true]; simp only [part, Bool.or_eq_true, beq_iff_eq, Bool.and_eq_true, decide_eq_true_eq]; omega

set_option maxHeartbeats 1000000 in
theorem word_any (s : ByteArray) (first : Int) (w : World) (hs : s.size ≤ maxLen) :
    Calls Try.prog 190 #[.string s, .int .i64 first] w fun e w' => e = .returned (.bool (isWord s first)) ∧ w = w' := by
  unfold maxLen at hs
  by_cases h0 : 0 < s.size
  · have h1 : (s == ⟨#[]⟩) = false := by rw [beq_eq_false_iff_ne]; rintro rfl; exact absurd h0 (by decide)
    by_cases h2 : 24 < s.size
    · have HF := Lib.hid (isWord_long s first h2)
      go_enter Try.func190, Try.ntmps190
      go_wp2
      go_step3
      go_wp2
      try rw [Exit.noGoto_ret]
      go_ret
      exact ⟨ret_bool HF.out.symm, rfl⟩
    · by_cases h3 : (cls s[0].toNat == first) = true
      · have h3' : (cls s[0].toNat != first) = false := by rw [bne, h3]; rfl
        have HF := Lib.hid (isWord_main s first h0 h2 h3)
        clear h3
        go_enter Try.func190, Try.ntmps190
        go_wp2
        go_step3
        go_wp2_with (go_at_call 124; refine (class_any _ _).mono ?_; rintro e w' ⟨rfl, rfl⟩)
        go_step3
        go_wp2
        go_loop [5, 6, 23] (fun _ _ i => ∃ k : Nat, k ≤ s.size ∧ i = .int .i64 k ∧ Hid ((s.data.toList.take k).all (fun c => part c.toNat) = true)) (fun _ _ i => s.size - (intOf i).toNat)
        case atStart => exact ⟨0, Nat.zero_le _, rfl, rfl⟩
        case round =>
          obtain ⟨k, hk, rfl, Hn⟩ := hrel
          by_cases hlt : k < s.size
          · have hcr := cls_range s[k].toNat
            go_wp2_with (go_at_call 124; refine (class_any _ _).mono ?_; rintro e w' ⟨rfl, rfl⟩)
            all_goals first
              | (go_round
                 case rel => exact ⟨k + 1, by omega, by go_num, by rw [all_take_snoc _ _ _ hlt, Hn.out, part_yes _ (by first | exact .inl ‹_› | exact .inr (by omega))]; rfl⟩
                 case measure => simp [intOf]; omega)
              | (try rw [Exit.noGoto_ret]
                 go_ret
                 exact ⟨ret_bool (by rw [HF.out]; exact (all_of_bad s _ k hlt (part_no _ ‹_› (by omega))).symm), rfl⟩)
          · go_wp2
            try rw [Exit.noGoto_ret]
            go_ret
            exact ⟨ret_bool (by rw [HF.out]; have := Hn.out; rw [take_all s k hlt] at this; exact this.symm), rfl⟩
      · have h3 : (cls s[0].toNat == first) = false := by simpa using h3
        have h3' : (cls s[0].toNat != first) = true := by rw [bne, h3]; rfl
        have HF := Lib.hid (isWord_first s first h0 h3)
        clear h3
        go_enter Try.func190, Try.ntmps190
        go_wp2
        go_step3
        go_wp2_with (go_at_call 124; refine (class_any _ _).mono ?_; rintro e w' ⟨rfl, rfl⟩)
        try rw [Exit.noGoto_ret]
        go_ret
        exact ⟨ret_bool HF.out.symm, rfl⟩
  · have h1 : (s == ⟨#[]⟩) = true := by
      rw [beq_iff_eq]; cases s with | mk d => simp only [ByteArray.mk.injEq]; exact Array.eq_empty_of_size_eq_zero (by have : d.size = (ByteArray.mk d).size := rfl; omega)
    have HF := Lib.hid (isWord_empty s first h0)
    go_enter Try.func190, Try.ntmps190
    go_wp2
    go_step3
    go_wp2
    try rw [Exit.noGoto_ret]
    go_ret
    exact ⟨ret_bool HF.out.symm, rfl⟩

theorem upper_any (s : ByteArray) (w : World) (hs : s.size ≤ maxLen) :
    Calls Try.prog 175 #[.string s] w fun e w' => e = .returned (.bool (isWord s 2)) ∧ w = w' := by
  go_enter Try.func175, Try.ntmps175
  go_wp2_with (go_at_call 190; refine (word_any _ _ _ hs).mono ?_; rintro e w' ⟨rfl, rfl⟩)
  go_ret
  exact ⟨rfl, rfl⟩
theorem name_any (s : ByteArray) (w : World) (hs : s.size ≤ maxLen) :
    Calls Try.prog 174 #[.string s] w fun e w' => e = .returned (.bool (isWord s 1 && !isKey s)) ∧ Below w.heap.size w w' := by
  by_cases h : isWord s 1 = true
  · go_enter Try.func174, Try.ntmps174
    go_wp2_with (first | (go_at_call 190; refine (word_any _ _ _ hs).mono ?_; rintro e w' ⟨rfl, rfl⟩) | (go_at_call 173; refine (key_any _ _).mono ?_; rintro e w' ⟨rfl, hb⟩))
    go_ret
    exact ⟨ret_bool (by rw [h]; rfl), hb⟩
  · have h : isWord s 1 = false := by simpa using h
    go_enter Try.func174, Try.ntmps174
    go_wp2_with (go_at_call 190; refine (word_any _ _ _ hs).mono ?_; rintro e w' ⟨rfl, rfl⟩)
    go_ret
    exact ⟨ret_bool (by rw [h]; rfl), Below.refl _ _⟩

set_option maxHeartbeats 2000000 in
theorem rword_any (s : ByteArray) (first : Int) (w : World) (hs : s.size ≤ maxLen) :
    Calls Try.prog 133 #[.string s, .int .i64 first] w fun e w' => e = .returned (.bool (isWord s first)) ∧ w = w' := by
  unfold maxLen at hs
  by_cases h0 : 0 < s.size
  · have h1 : ((s.size : Int) == 0) = false := by rw [beq_eq_false_iff_ne]; omega
    by_cases h2 : 24 < s.size
    · have HF := Lib.hid (isWord_long s first h2)
      go_enter Try.func133, Try.ntmps133
      go_wp2
      go_ret
      exact ⟨ret_bool HF.out.symm, rfl⟩
    · by_cases h3 : (cls s[0].toNat == first) = true
      · have h3' : (cls s[0].toNat != first) = false := by rw [bne, h3]; rfl
        have HF := Lib.hid (isWord_main s first h0 h2 h3)
        clear h3
        go_enter Try.func133, Try.ntmps133
        go_wp2_with (go_at_call 131; refine (rclass_any _ _).mono ?_; rintro e w' ⟨rfl, rfl⟩)
        go_loop [5, 6] (fun i _ => ∃ k : Nat, k ≤ s.size ∧ i = .int .i64 k ∧ Hid ((s.data.toList.take k).all (fun c => part c.toNat) = true)) (fun i _ => s.size - (intOf i).toNat)
        case atStart => exact ⟨0, Nat.zero_le _, rfl, rfl⟩
        case round =>
          obtain ⟨k, hk, rfl, Hn⟩ := hrel
          by_cases hlt : k < s.size
          · have hcr := cls_range s[k].toNat
            go_wp2_with (go_at_call 131; refine (rclass_any _ _).mono ?_; rintro e w' ⟨rfl, rfl⟩)
            all_goals first
              | (go_round
                 case rel => exact ⟨k + 1, by omega, by go_num, by rw [all_take_snoc _ _ _ hlt, Hn.out, part_yes' _ (by (try simp only [bne_iff_ne, bne_eq_false_iff_eq, ne_eq] at *); omega)]; rfl⟩
                 case measure => simp [intOf]; omega)
              | (go_ret
                 exact ⟨ret_bool (by rw [HF.out]; exact (all_of_bad s _ k hlt (part_no' _ (by (try simp only [bne_iff_ne, bne_eq_false_iff_eq, ne_eq] at *); omega))).symm), rfl⟩)
          · go_wp2
            go_ret
            exact ⟨ret_bool (by rw [HF.out]; have := Hn.out; rw [take_all s k hlt] at this; exact this.symm), rfl⟩
      · have h3 : (cls s[0].toNat == first) = false := by simpa using h3
        have h3' : (cls s[0].toNat != first) = true := by rw [bne, h3]; rfl
        have HF := Lib.hid (isWord_first s first h0 h3)
        clear h3
        go_enter Try.func133, Try.ntmps133
        go_wp2_with (go_at_call 131; refine (rclass_any _ _).mono ?_; rintro e w' ⟨rfl, rfl⟩)
        go_ret
        exact ⟨ret_bool HF.out.symm, rfl⟩
  · have h1 : ((s.size : Int) == 0) = true := by rw [beq_iff_eq]; omega
    have HF := Lib.hid (isWord_empty s first h0)
    go_enter Try.func133, Try.ntmps133
    go_wp2
    go_ret
    exact ⟨ret_bool HF.out.symm, rfl⟩
end Go.Proofs.Ytppejoccljfblaa

/-
  The walks of digits and numbers, in chars and in the document's answer. No condition but sizes.
-/
namespace Go.Proofs.Ytppejoccljfblaa
open Go.RowKit
attribute [local go_sem] toList_beq empty_beq

/-- A number's digits, the last one first. -/
def decR (n : Nat) : List UInt8 := UInt8.ofNat (48 + n % 10) :: (if n < 10 then [] else decR (n / 10))
termination_by n
def dec (n : Nat) : List UInt8 := (decR n).reverse
theorem decR_small (n : Nat) (h : n < 10) : decR n = [UInt8.ofNat (48 + n)] := by
  rw [decR, if_pos h, Nat.mod_eq_of_lt h]
theorem decR_great (n : Nat) (h : ¬ n < 10) : decR n = UInt8.ofNat (48 + n % 10) :: decR (n / 10) := by
  rw [decR, if_neg h]
theorem decR_len (k : Nat) : ∀ n, n < 10 ^ (k + 1) → (decR n).length ≤ k + 1 := by
  induction k with
  | zero => intro n h; rw [decR_small n (by simpa using h)]; simp
  | succ k ih =>
    intro n h
    by_cases h1 : n < 10
    · rw [decR_small n h1]; simp
    · rw [decR_great n h1, List.length_cons]
      have := ih (n / 10) (by rw [Nat.div_lt_iff_lt_mul (by decide)]; rw [Nat.pow_succ] at h; exact h)
      omega
theorem decR_len64 (n : Nat) (h : n ≤ 18446744073709551615) : (decR n).length ≤ 20 := decR_len 19 n (by omega)
theorem decR_pos (n : Nat) : 1 ≤ (decR n).length := by rw [decR]; simp
/-- What a round of the loop does to the digits. -/
theorem dec_round (N u : Nat) (l : List UInt8) (h : dec N = (decR u).reverse ++ l) (h10 : ¬ u < 10) : dec N = (decR (u / 10)).reverse ++ (UInt8.ofNat (48 + u % 10) :: l) := by
  rw [h, decR_great u h10]; simp
theorem dec_last (N u : Nat) (l : List UInt8) (h : dec N = (decR u).reverse ++ l) (h10 : u < 10) : dec N = UInt8.ofNat (48 + u % 10) :: l := by
  rw [h, decR_small u h10, Nat.mod_eq_of_lt h10]; simp
theorem dec_size (N u : Nat) (l : List UInt8) (h : dec N = (decR u).reverse ++ l) (hN : N ≤ 18446744073709551615) : l.length ≤ 19 := by
  have h1 := decR_len64 N hN
  have h2 := congrArg List.length h
  have h3 := decR_pos u
  simp [dec] at h2
  omega
theorem cons_str (x : Nat) (l m : List UInt8) (h : m = UInt8.ofNat (48 + x) :: l) : (⟨#[48 + UInt8.ofNat x]⟩ : ByteArray) ++ ⟨l.toArray⟩ = ⟨m.toArray⟩ := by
  rw [h, show (#[48 + UInt8.ofNat x] : Array UInt8) = [UInt8.ofNat (48 + x)].toArray by simp, ByteArray.mk_append_mk]; rfl

/-- '[]byte{x}' as a text. -/
theorem conv_one (w : World) (x : Int) : (convert 22 9 (.slice (some ⟨w.heap.size, 0, none⟩) 1 1)).run Try.prog (w.alloc (.cells #[.int .u8 x] 5)) =
    .ok (.string ⟨[UInt8.ofNat x.toNat].toArray⟩) (w.alloc (.cells #[.int .u8 x] 5)) := by
  have h := run_convert_bytes_arg (P := Try.prog) (w.alloc (.cells #[.int .u8 x] 5)) 22 5 Try.underlying22 Try.underlying5 w.heap.size 0 1 1 [x] rfl
    (fun i hi => by obtain rfl : i = 0 := by omega
                    exact (rd_new w #[.int .u8 x] 5 1 1 rfl (by decide)).2.2.2.resolve_left (by decide) |> fun ⟨b, o, hb, _, hc⟩ => by cases hb; exact hc 0 (by simp)) 9 Try.underlying9
  exact h
attribute [local go_sem] conv_one

set_option maxHeartbeats 1000000 in
theorem rdigits_any (N : Nat) (w : World) (hN : N ≤ 18446744073709551615) :
    Calls Try.prog 83 #[.int .u64 N] w fun e w' => e = .returned (.string ⟨(dec N).toArray⟩) ∧ Below w.heap.size w w' := by
  have HN := Lib.hid hN
  clear hN
  go_enter Try.func83, Try.ntmps83
  go_wp2
  go_loopw [0, 3] (fun u s wr => ∃ (n : Nat) (l : List UInt8), (n : Int) ≤ 18446744073709551615 ∧ l.length ≤ 19 ∧ u = .int .u64 n ∧ s = .string ⟨l.toArray⟩ ∧ Hid (dec N = (decR n).reverse ++ l) ∧ Hid (Below w.heap.size w wr)) (fun u _ _ => (intOf u).toNat)
  case atStart => exact ⟨N, [], by have := HN.out; omega, by decide, rfl, rfl, by simp [Hid, dec], Below.refl _ _⟩
  case round =>
    obtain ⟨n, l, hn, hl, rfl, rfl, HD, HB⟩ := hrel
    by_cases h10 : n < 10
    · clear hn
      have HF := Lib.hid (dec_last N n l HD.out h10)
      go_wp2
      go_ret
      exact ⟨ret_str (cons_str _ _ _ HF.out), HB.out.alloc HB.out.size _⟩
    · have HF := Lib.hid (dec_round N n l HD.out h10)
      have HL := Lib.hid (dec_size N (n / 10) _ HF.out HN.out)
      go_wp2
      go_round
      case rel => exact ⟨n / 10, _, by omega, HL.out, by go_num, congrArg Value.string (cons_str _ _ _ rfl), HF.out, HB.out.alloc HB.out.size _⟩
      case measure => simp [intOf]; omega

theorem rdigits_int (u : Int) (w : World) (h0 : 0 ≤ u) (h1 : u ≤ 18446744073709551615) :
    Calls Try.prog 83 #[.int .u64 u] w fun e w' => e = .returned (.string ⟨(dec u.toNat).toArray⟩) ∧ Below w.heap.size w w' := by
  obtain ⟨N, rfl⟩ := Int.eq_ofNat_of_zero_le h0
  exact rdigits_any N w (by omega)

/-- A number as a text: the document's digits. -/
def digs (n : Int) : List UInt8 := if n < 0 then 45 :: dec n.natAbs else dec n.toNat
theorem digs_neg (n m : Int) (h : n < 0) (hm : m = -n) : digs n = 45 :: dec m.toNat := by
  rw [digs, if_pos h, show n.natAbs = m.toNat by omega]
theorem digs_pos (n : Int) (h : ¬ n < 0) : digs n = dec n.toNat := by rw [digs, if_neg h]
theorem dec_len (n : Nat) (h : n ≤ 18446744073709551615) : (dec n).length ≤ 20 := by rw [dec, List.length_reverse]; exact decR_len64 n h
theorem minus_str (l m : List UInt8) (h : m = 45 :: l) : (⟨#[45]⟩ : ByteArray) ++ ⟨l.toArray⟩ = ⟨m.toArray⟩ := by
  rw [h, show (#[45] : Array UInt8) = [45].toArray by rfl, ByteArray.mk_append_mk]; rfl

set_option maxHeartbeats 1000000 in
theorem rDigits_any (n : Int) (w : World) (h0 : -9223372036854775808 ≤ n) (h1 : n ≤ 9223372036854775807) :
    Calls Try.prog 30 #[.int .i64 n] w fun e w' => e = .returned (.string ⟨(digs n).toArray⟩) ∧ Below w.heap.size w w' := by
  by_cases hn : n < 0
  · have HF := Lib.hid (digs_neg n (-(n + 1) + 1) hn (by omega))
    have hL : (dec (-(n + 1) + 1).toNat).length ≤ 20 := dec_len _ (by omega)
    go_enter Try.func30, Try.ntmps30
    go_wp2_with (go_at_call 83; refine (rdigits_int _ _ (by omega) (by omega)).mono ?_; rintro e w' ⟨rfl, hb⟩)
    go_ret
    exact ⟨ret_str (minus_str _ _ HF.out), hb⟩
  · have HF := Lib.hid (digs_pos n hn)
    go_enter Try.func30, Try.ntmps30
    go_wp2_with (go_at_call 83; refine (rdigits_int _ _ (by omega) (by omega)).mono ?_; rintro e w' ⟨rfl, hb⟩)
    go_ret
    exact ⟨ret_str (by rw [HF.out]), hb⟩
end Go.Proofs.Ytppejoccljfblaa
