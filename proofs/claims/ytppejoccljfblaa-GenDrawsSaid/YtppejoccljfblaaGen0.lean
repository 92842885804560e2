/-
  The numbers that are drawn from a seed on, and the texts that are made of them; gen's and the law's small parts walked. No condition but sizes.
-/
import Derived.Test.YtppejoccljfblaaRev
import Derived.Lib.Bytealg
import Derived.Test.YtppejoccljfblaaStrs
import Derived.Test.YtppejoccljfblaaFar
namespace Go.Proofs.Ytppejoccljfblaa
open Go.RowKit

def nx1 (x : Int) : Int := bits .xor .u64 (bits .xor .u64 (bits .xor .u64 x (IntKind.u64.wrap (x * 8192))) (bits .xor .u64 x (IntKind.u64.wrap (x * 8192)) / 128)) (IntKind.u64.wrap (bits .xor .u64 (bits .xor .u64 x (IntKind.u64.wrap (x * 8192))) (bits .xor .u64 x (IntKind.u64.wrap (x * 8192)) / 128) * 131072))
/-- The seed behind a seed. -/
def nxt (x : Int) : Int := nx1 (if x < 1 then 1 else x)
theorem bits_u64 (x y : Int) : 0 ≤ bits .xor .u64 x y ∧ bits .xor .u64 x y < 18446744073709551616 := by
  show 0 ≤ IntKind.u64.wrap _ ∧ IntKind.u64.wrap _ < _
  rw [IntKind.wrap_u64]; omega
theorem nxt_range (x : Int) : 0 ≤ nxt x ∧ nxt x < 18446744073709551616 := by unfold nxt nx1; exact bits_u64 _ _
/-- The number that is drawn below n. -/
def dr (s : Int) (n : Nat) : Nat := (nxt s % (n : Int)).toNat
theorem dr_int (s : Int) {n : Nat} (hn : 0 < n) : ((dr s n : Nat) : Int) = nxt s % (n : Int) := Int.toNat_of_nonneg (Int.emod_nonneg _ (by omega))
theorem dr_lt (s : Int) {n : Nat} (hn : 0 < n) : dr s n < n := by
  have h1 := dr_int s hn
  have h2 := Int.emod_lt_of_pos (nxt s) (show (0 : Int) < (n : Int) by omega)
  omega
/-- A name of a function. -/
def nameS (k : Nat) : ByteArray := ⟨#[102]⟩ ++ ⟨(digs (k : Int)).toArray⟩
def brk (t : ByteArray) : ByteArray := if t.data.toList.any (· == 32) then ⟨#[40]⟩ ++ t ++ ⟨#[41]⟩ else t
/-- An argument. -/
def argQ (E : Int → ByteArray × Int) (s : Int) : ByteArray × Int := (brk (E s).1, (E s).2)
/-- So many arguments behind a text. -/
def reps (E : Int → ByteArray × Int) (p : ByteArray × Int) : Nat → ByteArray × Int
  | 0 => p
  | j + 1 => ((reps E p j).1 ++ (⟨#[32]⟩ ++ (argQ E (reps E p j).2).1), (argQ E (reps E p j).2).2)
def callQ (fs : Nat) (E : Int → ByteArray × Int) (s : Int) : ByteArray × Int := reps E (nameS (dr s fs), nxt s) (1 + dr s fs % 2)
def varQ (vs : List ByteArray) (s : Int) : ByteArray × Int := if vs.length = 0 then (⟨#[90]⟩, s) else (vs.getD (dr s vs.length) ByteArray.empty, nxt s)
def threeQ (E : Int → ByteArray × Int) (s : Int) : ByteArray × Int := ((argQ E s).1 ++ ⟨#[32, 63, 32]⟩ ++ (argQ E (argQ E s).2).1, (argQ E (argQ E s).2).2)
def succQ (E : Int → ByteArray × Int) (s : Int) : ByteArray × Int := (⟨#[83, 32]⟩ ++ (argQ E s).1, (argQ E s).2)
/-- An expression of a depth. -/
def exprQ (vs : List ByteArray) (fs : Nat) : Nat → Int → ByteArray × Int
  | 0, s => if dr s 2 = 0 then varQ vs (nxt s) else (⟨#[90]⟩, nxt s)
  | d + 1, s => if dr s 5 = 0 then varQ vs (nxt s) else if dr s 5 = 1 then (⟨#[90]⟩, nxt s) else if dr s 5 = 3 then threeQ (exprQ vs fs d) (nxt s)
      else if dr s 5 = 4 ∧ 0 < fs then callQ fs (exprQ vs fs d) (nxt s) else succQ (exprQ vs fs d) (nxt s)
def exS : Nat → Nat
  | 0 => 1
  | d + 1 => 2 * exS d + 40
theorem exS_le {d : Nat} (h : d ≤ 4) : exS d ≤ 616 := by
  match d, h with
  | 0, _ => decide
  | 1, _ => decide
  | 2, _ => decide
  | 3, _ => decide
  | 4, _ => decide
theorem exS_mono {d : Nat} : exS d ≤ exS (d + 1) := by rw [exS]; omega
theorem brk_size (t : ByteArray) : (brk t).size ≤ t.size + 2 := by
  unfold brk
  split
  · simp only [ByteArray.size_append]
    show 1 + t.size + 1 ≤ _
    omega
  · omega
theorem digs_len {k : Nat} (h : k ≤ 1099511627776) : (digs (k : Int)).length ≤ 20 := by rw [digs_pos _ (by omega)]; exact dec_len _ (by omega)
theorem nameS_size {k : Nat} (h : k ≤ 1099511627776) : (nameS k).size ≤ 21 := by
  have := digs_len h
  unfold nameS
  rw [ByteArray.size_append]
  show 1 + (digs (k : Int)).toArray.size ≤ _
  rw [List.size_toArray]; omega
theorem reps_size {E : Int → ByteArray × Int} {m : Nat} (hE : ∀ s, (E s).1.size ≤ m) (p : ByteArray × Int) : ∀ j, (reps E p j).1.size ≤ p.1.size + j * (m + 3)
  | 0 => by rw [reps]; omega
  | j + 1 => by
    have ih := reps_size hE p j
    rw [reps]
    simp only [ByteArray.size_append]
    have h1 := brk_size (E (reps E p j).2).1
    have h2 := hE (reps E p j).2
    show (reps E p j).1.size + (1 + (brk (E (reps E p j).2).1).size) ≤ _
    rw [Nat.succ_mul]; omega
theorem varQ_size {vs : List ByteArray} (hv : ∀ v ∈ vs, v.size ≤ 1) (s : Int) : (varQ vs s).1.size ≤ 1 := by
  unfold varQ
  split
  · exact Nat.le_refl _
  · rename_i h
    have hl := dr_lt s (Nat.pos_of_ne_zero h)
    show (vs.getD _ _).size ≤ 1
    rw [List.getD_eq_getElem?_getD, List.getElem?_eq_getElem hl]
    exact hv _ (List.getElem_mem _)
theorem exprQ_size {vs : List ByteArray} {fs : Nat} (hv : ∀ v ∈ vs, v.size ≤ 1) (hf : fs ≤ 1000) : ∀ d s, (exprQ vs fs d s).1.size ≤ exS d
  | 0, s => by
    rw [exprQ]
    split
    · exact varQ_size hv _
    · exact Nat.le_refl _
  | d + 1, s => by
    have ih := exprQ_size hv hf d
    have h1 := fun s => brk_size (exprQ vs fs d s).1
    rw [exprQ, exS]
    split
    · have := varQ_size hv (nxt s); omega
    · split
      · show 1 ≤ _; omega
      · split
        · unfold threeQ argQ
          simp only [ByteArray.size_append]
          have a1 := h1 (nxt s)
          have a2 := ih (nxt s)
          have a3 := h1 (exprQ vs fs d (nxt s)).2
          have a4 := ih (exprQ vs fs d (nxt s)).2
          show _ + 3 + _ ≤ _
          omega
        · split
          · rename_i h
            unfold callQ
            have a1 := reps_size ih (nameS (dr (nxt s) fs), nxt (nxt s)) (1 + dr (nxt s) fs % 2)
            have a2 := nameS_size (k := dr (nxt s) fs) (by have := dr_lt (nxt s) h.2; omega)
            have a3 : (1 + dr (nxt s) fs % 2) * (exS d + 3) ≤ 2 * (exS d + 3) := Nat.mul_le_mul_right _ (by omega)
            simp only at a1
            omega
          · unfold succQ argQ
            simp only [ByteArray.size_append]
            have a1 := h1 (nxt s)
            have a2 := ih (nxt s)
            show 2 + _ ≤ _
            omega

theorem ret_u64 {a b : Int} (h : a = b) : Ending.returned (.int .u64 a) = .returned (.int .u64 b) := by rw [h]
set_option maxRecDepth 100000 in
set_option maxHeartbeats 2000000 in
theorem next_any (x : Int) (w : World) :
    Calls Try.prog 80 #[.int .u64 x] w fun e w' => e = .returned (.int .u64 (nxt x)) ∧ w = w' := by
  by_cases hx : x < 1
  · go_enter Try.func80, Try.ntmps80
    go_wp2
    go_ret
    exact ⟨ret_u64 (by rw [nxt, if_pos hx]; rfl), rfl⟩
  · have HF : Hid (nxt x = nx1 x) := Lib.hid (by rw [nxt, if_neg hx])
    go_enter Try.func80, Try.ntmps80
    go_wp2
    go_ret
    exact ⟨ret_u64 (by rw [HF.out]; rfl), rfl⟩

/-- The seed's cell. -/
def Sd (t : TypeId) (q : Nat) (s : Int) (w : World) : Prop := Bo w q t #[.int .u64 s] ∧ 0 ≤ s
theorem Sd.keep {t q : Nat} {s : Int} {w w' : World} (h : Sd t q s w) (hb : Below w.heap.size w w') : Sd t q s w' := ⟨h.1.keep hb, h.2⟩
theorem Sd.lt {t q : Nat} {s : Int} {w : World} (h : Sd t q s w) : q < w.heap.size := h.1.lt

set_option maxRecDepth 100000 in
set_option maxHeartbeats 2000000 in
theorem draw_any {n : Nat} (hn : 0 < n) (hn2 : n ≤ 1000) {q : Nat} {s : Int} (w : World) (h : Sd 53 q s w) :
    Calls Try.prog 137 #[.int .i64 n, .pointer (some ⟨q, 0, none⟩)] w fun e w' => e = .returned (.int .i64 (dr s n : Nat)) ∧ Far (fun k => k = q) w w' ∧ Sd 53 q (nxt s) w' := by
  have c0 : w.cell? ⟨q, 0, none⟩ = some (.int .u64 s) := h.1.cell (j := 0) rfl
  have f0 : ¬ w.frozen? ⟨q, 0, none⟩ = true := by rw [h.1.frozen 0]; decide
  have hr := nxt_range s
  have hd := dr_int s hn
  have hl := dr_lt s hn
  have e1 : IntKind.u64.wrap (n : Int) = (n : Int) := by rw [IntKind.wrap_u64]; omega
  have e2 : ¬ (n : Int) = 0 := by omega
  have e3 : wrap64 ((nxt s).tmod (n : Int)) = ((dr s n : Nat) : Int) := by
    rw [Int.tmod_eq_emod_of_nonneg hr.1, ← hd]; simp only [wrap64]; omega
  have HS := Lib.hid h
  have HR := Lib.hid hr.1
  have HE := Lib.hid e3
  clear hr hd hl h
  go_enter Try.func137, Try.ntmps137
  go_wp2_with (first | (go_at_call 80 ; refine (next_any _ _).mono ?_; rintro e w' ⟨rfl, rfl⟩))
  go_ret
  exact ⟨ret_int HE.out, (Far.refl (fun k => k = q) w).setCell (p := ⟨q, 0, none⟩) rfl _, HS.out.1.set 0 _, HR.out⟩

set_option maxHeartbeats 1000000 in
set_option maxRecDepth 100000 in
theorem gi_indexByte (s : ByteArray) (c : Int) (w : World) :
    Calls Try.prog 172 #[.string s, .int .u8 c] w fun e w' => e = .returned (.int .i64 (Lib.indexByte s.data.toList c.toNat.toUInt8)) ∧ w = w' := by
  go_enter Try.func172, Try.ntmps172
  go_wp2
  rw [run_callFunc_extern Try.func188 (by kernel_rfl) (by kernel_rfl) (by kernel_rfl) (e := Extern.BytealgIndexByte.indexByte) (by kernel_rfl), Lib.run_indexByteString]
  simp only [Result.andThen]
  rw [Oper.upon_value]
  go_wp2
  go_ret
  exact ⟨rfl, rfl⟩
theorem indexByte_at (l : List UInt8) (c : UInt8) : (0 ≤ Lib.indexByte l c ↔ l.any (· == c) = true) ∧ -1 ≤ Lib.indexByte l c := by
  induction l with
  | nil => simp [Lib.indexByte]
  | cons x l ih =>
    rw [Lib.indexByte, List.any_cons]
    by_cases h : x = c
    · subst h; simp
    · have h1 : (x == c) = false := by simpa using h
      rw [h1, Bool.false_or]
      simp only [Bool.false_eq_true, if_false]
      obtain ⟨i1, i2⟩ := ih
      by_cases h2 : Lib.indexByte l c = -1
      · rw [if_pos (by rw [beq_iff_eq]; exact h2)]
        refine ⟨⟨fun h3 => absurd h3 (by decide), fun h3 => ?_⟩, by decide⟩
        have := i1.2 h3; omega
      · rw [if_neg (by rw [beq_iff_eq]; exact h2)]
        refine ⟨⟨fun h3 => i1.1 (by omega), fun h3 => ?_⟩, by omega⟩
        have := i1.2 h3; omega
set_option maxRecDepth 100000 in
set_option maxHeartbeats 2000000 in
theorem sidx_any (s : ByteArray) (w : World) :
    Calls Try.prog 196 #[.string s, .string ⟨#[32]⟩] w fun e w' => (∃ i : Int, e = .returned (.int .i64 i) ∧ (0 ≤ i ↔ s.data.toList.any (· == 32) = true)) ∧ w = w' := by
  by_cases hs : s = ⟨#[32]⟩
  · subst hs
    go_enter Try.func196, Try.ntmps196
    go_wp2
    go_ret
    exact ⟨⟨0, rfl, by decide⟩, rfl⟩
  · have h4 : ([32] == s.toList) = false := by
      rw [beq_eq_false_iff_ne]; intro e; apply hs; rw [ByteArray.toList_eq] at e; exact congrArg ByteArray.mk (Array.toList_inj.1 e.symm)
    have h1 : (⟨#[32]⟩ == s) = false := by rw [beq_eq_false_iff_ne]; exact fun e => hs e.symm
    have h2 : (s == ⟨#[32]⟩) = false := by rw [beq_eq_false_iff_ne]; exact hs
    go_enter Try.func196, Try.ntmps196
    go_wp2_with (first | (go_at_call 172 ; refine (gi_indexByte _ _ _).mono ?_; rintro e w' ⟨rfl, rfl⟩))
    go_ret
    exact ⟨⟨_, rfl, (indexByte_at _ _).1⟩, rfl⟩
set_option maxRecDepth 100000 in
set_option maxHeartbeats 2000000 in
theorem index_any (s : ByteArray) (w : World) :
    Calls Try.prog 191 #[.string s, .string ⟨#[32]⟩] w fun e w' => (∃ i : Int, e = .returned (.int .i64 i) ∧ (0 ≤ i ↔ s.data.toList.any (· == 32) = true)) ∧ w = w' := by
  go_enter Try.func191, Try.ntmps191
  go_wp2_with (first | (go_at_call 196 ; refine (sidx_any _ _).mono ?_; rintro e w' ⟨⟨i, rfl, hi⟩, rfl⟩))
  go_ret
  exact ⟨⟨_, rfl, hi⟩, rfl⟩
set_option maxRecDepth 100000 in
set_option maxHeartbeats 2000000 in
theorem contains_any (s : ByteArray) (w : World) :
    Calls Try.prog 179 #[.string s, .string ⟨#[32]⟩] w fun e w' => e = .returned (.bool (s.data.toList.any (· == 32))) ∧ w = w' := by
  by_cases hb : s.data.toList.any (· == 32) = true
  · rw [hb]
    have HB := Lib.hid hb
    clear hb
    go_enter Try.func179, Try.ntmps179
    go_wp2_with (first | (go_at_call 191 ; refine (index_any _ _).mono ?_; rintro e w' ⟨⟨i, rfl, hi⟩, rfl⟩; have hi0 : decide (0 ≤ i) = true := decide_eq_true (hi.2 HB.out); clear hi))
    go_ret
    exact ⟨rfl, rfl⟩
  · have hb' : s.data.toList.any (· == 32) = false := by simpa using hb
    rw [hb']
    have HB := Lib.hid hb
    clear hb hb'
    go_enter Try.func179, Try.ntmps179
    go_wp2_with (first | (go_at_call 191 ; refine (index_any _ _).mono ?_; rintro e w' ⟨⟨i, rfl, hi⟩, rfl⟩; have hi0 : decide (0 ≤ i) = false := decide_eq_false fun h => HB.out (hi.1 h); clear hi))
    go_ret
    exact ⟨rfl, rfl⟩
set_option maxRecDepth 100000 in
set_option maxHeartbeats 2000000 in
theorem plain_any (s : ByteArray) (w : World) :
    Calls Try.prog 140 #[.string s] w fun e w' => e = .returned (.bool (!(s.data.toList.any (· == 32)))) ∧ w = w' := by
  obtain ⟨b, hb⟩ : ∃ b, s.data.toList.any (· == 32) = b := ⟨_, rfl⟩
  have HB := Lib.hid hb
  rw [hb]
  clear hb
  go_enter Try.func140, Try.ntmps140
  go_wp2_with (first | (go_at_call 179 ; refine (contains_any _ _).mono ?_; rintro e w' ⟨rfl, rfl⟩; rw [HB.out]))
  go_ret
  exact ⟨rfl, rfl⟩
set_option maxRecDepth 100000 in
set_option maxHeartbeats 2000000 in
theorem gname_any {k : Nat} (hk : k ≤ 1099511627776) (w : World) :
    Calls Try.prog 29 #[.int .i64 k] w fun e w' => e = .returned (.string (nameS k)) ∧ Below w.heap.size w w' := by
  have hl := digs_len hk
  go_enter Try.func29, Try.ntmps29
  go_wp2_with (first | (go_at_call 82 ; refine (Digits_any (k : Int) _ (by omega) (by omega)).mono ?_; rintro e w' ⟨rfl, hb⟩))
  go_ret
  exact ⟨rfl, hb⟩
set_option maxRecDepth 100000 in
set_option maxHeartbeats 2000000 in
theorem arity_any {k : Nat} (hk : k ≤ 1099511627776) (w : World) :
    Calls Try.prog 31 #[.int .i64 k] w fun e w' => e = .returned (.int .i64 ((1 + k % 2 : Nat) : Int)) ∧ w = w' := by
  rcases Nat.mod_two_eq_zero_or_one k with h | h
  · have e1 : (k : Int).tmod 2 = 0 := by rw [Int.tmod_eq_emod_of_nonneg (by omega)]; omega
    rw [h]
    go_enter Try.func31, Try.ntmps31
    go_wp2
    go_ret
    exact ⟨rfl, rfl⟩
  · have e1 : (k : Int).tmod 2 = 1 := by rw [Int.tmod_eq_emod_of_nonneg (by omega)]; omega
    rw [h]
    go_enter Try.func31, Try.ntmps31
    go_wp2
    go_ret
    exact ⟨rfl, rfl⟩
set_option maxRecDepth 100000 in
set_option maxHeartbeats 2000000 in
theorem within_any (n a b : Int) (w : World) :
    Calls Try.prog 81 #[.int .i64 n, .int .i64 a, .int .i64 b] w fun e w' => e = .returned (.bool (decide (a ≤ n) && decide (n ≤ b))) ∧ w = w' := by
  by_cases h1 : a ≤ n <;> by_cases h2 : n ≤ b
  all_goals
    go_enter Try.func81, Try.ntmps81
    go_wp2
    go_ret
    exact ⟨by simp [h1, h2], rfl⟩
/-- Whether a recipe may be. -/
def mayB (f r d : Int) : Bool := decide (1 ≤ f) && decide (f ≤ 8) && (decide (1 ≤ r) && decide (r ≤ 4)) && (decide (0 ≤ d) && decide (d ≤ 4))
end Go.Proofs.Ytppejoccljfblaa
