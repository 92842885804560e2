/-
  The scanner's parts, walked: at, while, word. No condition but sizes and how the scanner lies.
-/
import Derived.Test.YtppejoccljfblaaPrefix
import Derived.Test.YtppejoccljfblaaTree
import Derived.Deep.QuietTactic
import Derived.BigQuiet
import Derived.RegionTactic
import Derived.ChangeAlike
import Derived.StillTailTactics
namespace Go.Proofs.Ytppejoccljfblaa
open Go.RowKit

/-- The scanner in its box. -/
def Sc (w : World) (q : Nat) (s : ByteArray) (i line from' : Int) (out : Value) : Prop := Bo w q 112 #[.string s, .int .i64 i, .int .i64 line, .int .i64 from', out]
theorem Sc.c5 {w : World} {q : Nat} {s : ByteArray} {i line from' : Int} {out : Value} (h : Sc w q s i line from' out) :
    w.cell? ⟨q, 0, none⟩ = some (.string s) ∧ w.cell? ⟨q, 1, none⟩ = some (.int .i64 i) ∧ w.cell? ⟨q, 2, none⟩ = some (.int .i64 line) ∧ w.cell? ⟨q, 3, none⟩ = some (.int .i64 from') ∧ w.cell? ⟨q, 4, none⟩ = some out :=
  ⟨Bo.cell h rfl, Bo.cell h rfl, Bo.cell h rfl, Bo.cell h rfl, Bo.cell h rfl⟩

set_option maxRecDepth 100000 in
set_option maxHeartbeats 2000000 in
theorem at_any {w : World} {q : Nat} {s : ByteArray} {i line from' : Int} {out : Value} (h : Sc w q s i line from' out) (h0 : 0 ≤ from') (h1 : from' ≤ i) (h2 : i ≤ 1000000) :
    Calls Try.prog 76 #[.pointer (some ⟨q, 0, none⟩)] w fun e w' => e = .returned (.agg #[.int .i64 line, .int .i64 (i - from' + 1)]) ∧ Below w.heap.size w w' := by
  obtain ⟨c0, c1, c2, c3, c4⟩ := h.c5
  have hq := Bo.lt h
  go_enter Try.func76, Try.ntmps76
  go_wp2
  go_region
  all_goals go_wp2
  exact bodyPost_ret (v := .agg #[.int .i64 line, .int .i64 (i - from' + 1)]) (by simp [results, Try.results76, go_sem]) rfl ⟨rfl, Below.drew (below_new w _)⟩

/-- Which bytes 'while' goes over. -/
def inC (least most : Int) (under : Bool) (c : UInt8) : Bool := !((decide (cls c.toNat < least) || decide (most < cls c.toNat)) && !(under && ((c.toNat : Int) == 95)))
theorem tw_stop (p : UInt8 → Bool) (l : List UInt8) (i k : Nat) (hik : i ≤ k) (h1 : ∀ j (hj : j < l.length), i ≤ j → j < k → p l[j] = true) (hk : k ≤ l.length) (h2 : ∀ (hk : k < l.length), p l[k] = false) : (l.drop i).takeWhile p = (l.drop i).take (k - i) := by
  have e : l.drop i = (l.drop i).take (k - i) ++ l.drop k := by
    conv => lhs; rw [← List.take_append_drop (k - i) (l.drop i)]
    rw [List.drop_drop, show i + (k - i) = k by omega]
  have ha : ∀ x ∈ (l.drop i).take (k - i), p x = true := by
    intro x hx
    obtain ⟨j, hj, rfl⟩ := List.getElem_of_mem hx
    rw [List.length_take, List.length_drop] at hj
    rw [List.getElem_take, List.getElem_drop]
    exact h1 _ (by omega) (by omega) (by omega)
  have hb : (l.drop k).takeWhile p = [] := by
    rcases Nat.lt_or_ge k l.length with h | h
    · rw [List.drop_eq_getElem_cons h, List.takeWhile_cons_of_neg (by rw [h2 h]; decide)]
    · rw [List.drop_eq_nil_of_le h]; rfl
  conv => lhs; rw [e]
  rw [List.takeWhile_append_of_pos ha, hb, List.append_nil]
theorem ext_tw (p : UInt8 → Bool) (s : ByteArray) (i k : Nat) (hik : i ≤ k) (h1 : ∀ j (hj : j < s.data.toList.length), i ≤ j → j < k → p s.data.toList[j] = true) (hk : k ≤ s.size) (h2 : ∀ (hk : k < s.data.toList.length), p s.data.toList[k] = false) : s.extract i k = str ((s.data.toList.drop i).takeWhile p) := by
  rw [tw_stop p _ i k hik h1 (by rw [length_data]; exact hk) h2, ← ext_eq]
  exact (str_eta _).symm
set_option maxRecDepth 100000 in
set_option maxHeartbeats 2000000 in
theorem while_any {w : World} {q : Nat} {s : ByteArray} {line from' : Int} {out : Value} (i : Nat) (least most : Int) (under : Bool) (h : Sc w q s i line from' out) (hi : i ≤ s.size) (hs : s.size ≤ 1000000) :
    Calls Try.prog 128 #[.pointer (some ⟨q, 0, none⟩), .int .i64 least, .int .i64 most, .bool under] w fun e w' => e = .returned (.string (str ((s.data.toList.drop i).takeWhile (inC least most under)))) ∧ Below w.heap.size w w' := by
  obtain ⟨c0, c1, c2, c3, c4⟩ := h.c5
  clear h
  go_enter Try.func128, Try.ntmps128
  go_wp2
  go_loop [9, 10] (fun n _ => ∃ k : Nat, i ≤ k ∧ k ≤ s.size ∧ n = .int .i64 k ∧ Hid (∀ j (hj : j < s.data.toList.length), i ≤ j → j < k → inC least most under s.data.toList[j] = true)) (fun n _ => s.size - (intOf n).toNat)
  case atStart => exact ⟨i, Nat.le_refl _, hi, rfl, fun j _ h1 h2 => by omega⟩
  case round =>
    obtain ⟨k, hik, hk, rfl, HN⟩ := hrel
    by_cases hlt : k < s.size
    · have HX := Lib.hid (fun (h1 : inC least most under s[k] = true) (j : Nat) (hj : j < s.data.toList.length) (h2 : i ≤ j) (_h3 : j < k + 1) => (by
        rcases Nat.lt_or_ge j k with h4 | h4
        · exact HN.out j hj h2 h4
        · obtain rfl : j = k := by omega
          exact h1 : inC least most under s.data.toList[j] = true))
      have HY := Lib.hid (fun (h1 : inC least most under s[k] = false) => ext_tw (inC least most under) s i k hik HN.out hk (fun _ => h1))
      have HC : Hid (inC least most under s[k] = !((decide (cls s[k].toNat < least) || decide (most < cls s[k].toNat)) && !(under && ((s[k].toNat : Int) == 95)))) := Lib.hid rfl
      obtain ⟨b1, e1⟩ : ∃ b, decide (cls s[k].toNat < least) = b := ⟨_, rfl⟩
      obtain ⟨b2, e2⟩ : ∃ b, decide (most < cls s[k].toNat) = b := ⟨_, rfl⟩
      obtain ⟨b3, e3⟩ : ∃ b, ((s[k].toNat : Int) == 95) = b := ⟨_, rfl⟩
      rw [e1, e2, e3] at HC
      cases b1 <;> cases b2 <;> cases b3 <;> cases under
      all_goals
        go_wp2_with (go_at_call 124 ; refine (class_any _ _).mono ?_; rintro e w' ⟨rfl, rfl⟩)
        first
          | (go_round
             case rel => exact ⟨k + 1, by omega, by omega, by go_num, HX.out HC.out⟩
             case measure => simp [intOf]; omega)
          | (go_region
             all_goals go_wp2
             go_ret
             exact ⟨ret_str (HY.out HC.out), Below.drew (Below.refl _ _)⟩)
    · have HY : Hid (s.extract i k = str (List.takeWhile (inC least most under) (List.drop i s.data.toList))) := Lib.hid (ext_tw (inC least most under) s i k hik HN.out hk (fun h => absurd h (by rw [length_data]; exact hlt)))
      go_wp2
      go_region
      all_goals go_wp2
      go_ret
      exact ⟨ret_str HY.out, Below.drew (Below.refl _ _)⟩

theorem inC_part (c : UInt8) : inC 1 3 true c = partB c := by
  simp only [inC, partB, part, Bool.true_and]
  generalize cls c.toNat = x
  generalize ((c.toNat : Int) == 95) = b
  cases b
  · simp only [Bool.not_false, Bool.and_true, Bool.false_or]
    rw [Bool.eq_iff_iff]; simp
  · simp
theorem inC_dig (c : UInt8) : inC 3 3 false c = isDig c := by
  simp only [inC, isDig, Bool.false_and, Bool.not_false, Bool.and_true]
  rw [Bool.eq_iff_iff]
  simp only [Bool.not_eq_true', Bool.or_eq_false_iff, decide_eq_false_iff_not, Bool.and_eq_true, decide_eq_true_eq]
  unfold cls
  repeat' split
  all_goals omega

theorem store_tok {dst : Option Nat} {ty : TypeId} {pos : String} {after : Array Edge} {guard : Option (Nat × Bool)} {x y : Operand} {a : Act} {w : World} {K : Act → World → Prop} {Q : Exit → Act → World → Prop} (h : StOk 46 5 w (a.eval x) (a.eval y)) :
    Oper.wp Try.prog { dst := dst, op := .store 46 x y, type := ty, pos := pos, after := after, guard := guard } a w K Q = K (a.put dst undef) (w.setRow (stB (a.eval x)) (stC (a.eval y))) := wp_store_T rfl (by kernel_rfl) h
theorem stOk_tok {w : World} {g : Nat} {k n l c : Int} {s : ByteArray} : StOk 46 5 w (.pointer (some ⟨g, 0, none⟩)) (.agg #[.int .i64 k, .string s, .int .i64 n, .int .i64 l, .int .i64 c]) = Wr w g 46 5 := stOk_eq rfl (by simp [Value.oneCell'])

theorem Bo.t5 {w : World} {q : Nat} {t : TypeId} {c0 c1 c2 c3 c4 : Value} (h : Bo w q t #[c0, c1, c2, c3, c4]) : w.cell? ⟨q, 0, none⟩ = some c0 ∧ w.cell? ⟨q, 1, none⟩ = some c1 ∧ w.cell? ⟨q, 2, none⟩ = some c2 ∧ w.cell? ⟨q, 3, none⟩ = some c3 ∧ w.cell? ⟨q, 4, none⟩ = some c4 :=
  ⟨h.cell rfl, h.cell rfl, h.cell rfl, h.cell rfl, h.cell rfl⟩
attribute [local go_sem ↓] store_tok
attribute [local go_sem] stOk_tok stB_eq stC_eq wr_drew wr_alloc wr_row
/-- A token's cells. -/
def tokC (k : Int) (s : ByteArray) (n l c : Int) : Array Value := #[.int .i64 k, .string s, .int .i64 n, .int .i64 l, .int .i64 c]
def kindW (s : ByteArray) : Int := if isKey s then 5 else if isWord s 1 then 2 else if isWord s 2 then 3 else 0
set_option maxRecDepth 100000 in
set_option maxHeartbeats 2000000 in
theorem lword_any (s : ByteArray) (w : World) (hs : s.size ≤ 1000000) :
    Calls Try.prog 127 #[.string s] w fun e w' => e = .returned (.tuple #[.agg #[.int .i64 (kindW s), .string s, .int .i64 0, .int .i64 0, .int .i64 0], .bool (kindW s != 0)]) ∧ Below w.heap.size w w' := by
  have hm : s.size ≤ maxLen := by unfold maxLen; omega
  have key := Lib.hid (fun w => key_any s w)
  have nam := Lib.hid (fun w => name_any s w hm)
  have upp := Lib.hid (fun w => upper_any s w hm)
  clear hm hs
  cases h1 : isKey s <;> cases h2 : isWord s 1 <;> cases h3 : isWord s 2
  all_goals
    (simp only [h1, h2, h3, Bool.not_true, Bool.not_false, Bool.and_true, Bool.and_false] at key nam upp
     obtain ⟨kk, hk⟩ : ∃ kk, kk = kindW s := ⟨_, rfl⟩
     rw [← hk]
     unfold kindW at hk
     simp only [h1, h2, h3, if_true, if_false, Bool.false_eq_true] at hk
     subst hk
     clear h1 h2 h3)
  all_goals
    have HA0 : Hid (Bo ((w.alloc (.cells #[.int .i64 0, .string ⟨#[]⟩, .int .i64 0, .int .i64 0, .int .i64 0] 46)).alloc (.cells #[.int .i64 0, .string s, .int .i64 0, .int .i64 0, .int .i64 0] 46)) (w.heap.size + 1) 46 #[.int .i64 0, .string s, .int .i64 0, .int .i64 0, .int .i64 0]) := by
      have := Bo.new (w.alloc (.cells #[.int .i64 0, .string ⟨#[]⟩, .int .i64 0, .int .i64 0, .int .i64 0] 46)) 46 #[.int .i64 0, .string s, .int .i64 0, .int .i64 0, .int .i64 0]
      rw [World.size_alloc] at this
      exact Lib.hid this
    have HR0 : Hid (Bo ((w.alloc (.cells #[.int .i64 0, .string ⟨#[]⟩, .int .i64 0, .int .i64 0, .int .i64 0] 46)).alloc (.cells #[.int .i64 0, .string s, .int .i64 0, .int .i64 0, .int .i64 0] 46)) w.heap.size 46 #[.int .i64 0, .string ⟨#[]⟩, .int .i64 0, .int .i64 0, .int .i64 0]) := Lib.hid ((Bo.new w 46 _).alloc _)
    have HB0 : Hid (Below w.heap.size w ((w.alloc (.cells #[.int .i64 0, .string ⟨#[]⟩, .int .i64 0, .int .i64 0, .int .i64 0] 46)).alloc (.cells #[.int .i64 0, .string s, .int .i64 0, .int .i64 0, .int .i64 0] 46))) := Lib.hid (((Below.refl _ w).alloc (Nat.le_refl _) _).alloc (by simp) _)
    go_enter Try.func127, Try.ntmps127
    go_wp2_with (first
      | (go_at_call 173
         refine (key.out _).mono ?_
         rintro e w1 ⟨rfl, hb1⟩
         have HA1 := Lib.hid (HA0.out.keep hb1)
         have HR1 := Lib.hid (HR0.out.keep hb1)
         have HB1 : Hid (Below w.heap.size w w1) := Lib.hid (HB0.out.trans (hb1.mono HB0.out.size))
         have f1 := HA1.out.frozen 0
         obtain ⟨c10, c11, c12, c13, c14⟩ := HA1.out.t5
         have x5 : Bo (w1.setCell ⟨w.heap.size + 1, 0, none⟩ (.int .i64 5)) (w.heap.size + 1) 46 #[.int .i64 5, .string s, .int .i64 0, .int .i64 0, .int .i64 0] := HA1.out.set 0 (.int .i64 5)
         have y5 : Wr (w1.setCell ⟨w.heap.size + 1, 0, none⟩ (.int .i64 5)) w.heap.size 46 5 := (HR1.out.far 0 (.int .i64 5) (by omega)).wr
         obtain ⟨x50, x51, x52, x53, x54⟩ := x5.t5
         have z5 : ((w1.setCell ⟨w.heap.size + 1, 0, none⟩ (.int .i64 5)).drew.setRow w.heap.size #[.int .i64 5, .string s, .int .i64 0, .int .i64 0, .int .i64 0]).cell? ⟨w.heap.size + 1, 0, none⟩ = some (.int .i64 5) := ((Bo.drew x5).rowFar _ (by omega)).cell rfl
         have HQ5 : Hid (Bo (w1.setCell ⟨w.heap.size + 1, 0, none⟩ (.int .i64 5)) w.heap.size 46 #[.int .i64 0, .string ⟨#[]⟩, .int .i64 0, .int .i64 0, .int .i64 0]) := Lib.hid (HR1.out.far 0 (.int .i64 5) (by omega))
         clear hb1)
      | (go_at_call 174
         refine (nam.out _).mono ?_
         rintro e w2 ⟨rfl, hb2⟩
         have HA2 := Lib.hid (HA1.out.keep hb2)
         have HR2 := Lib.hid (HR1.out.keep hb2)
         have HB2 : Hid (Below w.heap.size w w2) := Lib.hid (HB1.out.trans (hb2.mono HB1.out.size))
         have f2 := HA2.out.frozen 0
         obtain ⟨c20, c21, c22, c23, c24⟩ := HA2.out.t5
         have y0 : Wr w2 w.heap.size 46 5 := HR2.out.wr
         have z0 : (w2.drew.setRow w.heap.size #[.int .i64 0, .string s, .int .i64 0, .int .i64 0, .int .i64 0]).cell? ⟨w.heap.size + 1, 0, none⟩ = some (.int .i64 0) := ((Bo.drew HA2.out).rowFar _ (by omega)).cell rfl
         have x2 : Bo (w2.setCell ⟨w.heap.size + 1, 0, none⟩ (.int .i64 2)) (w.heap.size + 1) 46 #[.int .i64 2, .string s, .int .i64 0, .int .i64 0, .int .i64 0] := HA2.out.set 0 (.int .i64 2)
         have y2 : Wr (w2.setCell ⟨w.heap.size + 1, 0, none⟩ (.int .i64 2)) w.heap.size 46 5 := (HR2.out.far 0 (.int .i64 2) (by omega)).wr
         obtain ⟨x20, x21, x22, x23, x24⟩ := x2.t5
         have z2 : ((w2.setCell ⟨w.heap.size + 1, 0, none⟩ (.int .i64 2)).drew.setRow w.heap.size #[.int .i64 2, .string s, .int .i64 0, .int .i64 0, .int .i64 0]).cell? ⟨w.heap.size + 1, 0, none⟩ = some (.int .i64 2) := ((Bo.drew x2).rowFar _ (by omega)).cell rfl
         have HQ2 : Hid (Bo (w2.setCell ⟨w.heap.size + 1, 0, none⟩ (.int .i64 2)) w.heap.size 46 #[.int .i64 0, .string ⟨#[]⟩, .int .i64 0, .int .i64 0, .int .i64 0]) := Lib.hid (HR2.out.far 0 (.int .i64 2) (by omega))
         have x3 : Bo (w2.setCell ⟨w.heap.size + 1, 0, none⟩ (.int .i64 3)) (w.heap.size + 1) 46 #[.int .i64 3, .string s, .int .i64 0, .int .i64 0, .int .i64 0] := HA2.out.set 0 (.int .i64 3)
         have y3 : Wr (w2.setCell ⟨w.heap.size + 1, 0, none⟩ (.int .i64 3)) w.heap.size 46 5 := (HR2.out.far 0 (.int .i64 3) (by omega)).wr
         obtain ⟨x30, x31, x32, x33, x34⟩ := x3.t5
         have z3 : ((w2.setCell ⟨w.heap.size + 1, 0, none⟩ (.int .i64 3)).drew.setRow w.heap.size #[.int .i64 3, .string s, .int .i64 0, .int .i64 0, .int .i64 0]).cell? ⟨w.heap.size + 1, 0, none⟩ = some (.int .i64 3) := ((Bo.drew x3).rowFar _ (by omega)).cell rfl
         have HQ3 : Hid (Bo (w2.setCell ⟨w.heap.size + 1, 0, none⟩ (.int .i64 3)) w.heap.size 46 #[.int .i64 0, .string ⟨#[]⟩, .int .i64 0, .int .i64 0, .int .i64 0]) := Lib.hid (HR2.out.far 0 (.int .i64 3) (by omega))
         clear hb2)
      | (go_at_call 175 ; refine (upp.out _).mono ?_; rintro e w3 ⟨rfl, rfl⟩))
    go_region
    all_goals go_wp2
  all_goals first
    | (have HE := Lib.hid ((Bo.drew HQ5.out).row #[.int .i64 5, .string s, .int .i64 0, .int .i64 0, .int .i64 0]).t5
       exact bodyPost_ret (v := .tuple #[.agg #[.int .i64 5, .string s, .int .i64 0, .int .i64 0, .int .i64 0], .bool true]) (by simp [results, Try.results127, go_sem, HE.out]) rfl ⟨rfl, below_setRow (Below.drew (HB1.out.setCell (p := ⟨w.heap.size + 1, 0, none⟩) (Nat.le_succ _) _)) (Nat.le_refl _) _⟩)
    | (have HE := Lib.hid ((Bo.drew HQ2.out).row #[.int .i64 2, .string s, .int .i64 0, .int .i64 0, .int .i64 0]).t5
       exact bodyPost_ret (v := .tuple #[.agg #[.int .i64 2, .string s, .int .i64 0, .int .i64 0, .int .i64 0], .bool true]) (by simp [results, Try.results127, go_sem, HE.out]) rfl ⟨rfl, below_setRow (Below.drew (HB2.out.setCell (p := ⟨w.heap.size + 1, 0, none⟩) (Nat.le_succ _) _)) (Nat.le_refl _) _⟩)
    | (have HE := Lib.hid ((Bo.drew HQ3.out).row #[.int .i64 3, .string s, .int .i64 0, .int .i64 0, .int .i64 0]).t5
       exact bodyPost_ret (v := .tuple #[.agg #[.int .i64 3, .string s, .int .i64 0, .int .i64 0, .int .i64 0], .bool true]) (by simp [results, Try.results127, go_sem, HE.out]) rfl ⟨rfl, below_setRow (Below.drew (HB2.out.setCell (p := ⟨w.heap.size + 1, 0, none⟩) (Nat.le_succ _) _)) (Nat.le_refl _) _⟩)
    | (have HE := Lib.hid ((Bo.drew HR2.out).row #[.int .i64 0, .string s, .int .i64 0, .int .i64 0, .int .i64 0]).t5
       exact bodyPost_ret (v := .tuple #[.agg #[.int .i64 0, .string s, .int .i64 0, .int .i64 0, .int .i64 0], .bool false]) (by simp [results, Try.results127, go_sem, HE.out]) rfl ⟨rfl, below_setRow (Below.drew (HB2.out)) (Nat.le_refl _) _⟩)
end Go.Proofs.Ytppejoccljfblaa
