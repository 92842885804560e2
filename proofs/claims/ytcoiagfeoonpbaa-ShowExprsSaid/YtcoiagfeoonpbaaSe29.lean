/-
  whimbrellaw08.awake: it answers true. No condition.
-/
import Derived.Test.YtcoiagfeoonpbaaSe24
import Derived.Test.YtcoiagfeoonpbaaSe28
import Derived.Test.YtcoiagfeoonpbaaSe3
namespace Go.Proofs.Ytcoiagfeoonpbaa
open Go.RowKit
theorem a8_ok1 : okN [49] = true := by
  have h := okN_dec 1
  rw [dec_eq] at h
  exact h
theorem a8_ok2 : okN [50] = true := by
  have h := okN_dec 2
  rw [dec_eq] at h
  exact h
theorem a8_n1 : numN [49] = 1 := by
  have h := numN_dec 1 (by decide)
  rw [dec_eq] at h
  exact h
theorem a8_n2 : numN [50] = 2 := by
  have h := numN_dec 2 (by decide)
  rw [dec_eq] at h
  exact h
theorem a8_t1 : tokL [49, 32, 43, 32, 50, 41, 32, 42, 32, 120] = some (4, [49], 1) := by
  unfold tokL
  have h1 : ¬ (cls (49 : UInt8).toNat = 1 ∨ cls (49 : UInt8).toNat = 2) := by decide
  have h2 : cls (49 : UInt8).toNat = 3 := by decide
  simp only [if_neg h1, if_pos h2]
  rw [show List.takeWhile isDig [49, 32, 43, 32, 50, 41, 32, 42, 32, 120] = [49] from by decide, if_pos a8_ok1, a8_n1]
theorem a8_t2 : tokL [43, 32, 50, 41, 32, 42, 32, 120] = some (6, [43], 0) := by decide
theorem a8_t3 : tokL [50, 41, 32, 42, 32, 120] = some (4, [50], 2) := by
  unfold tokL
  have h1 : ¬ (cls (50 : UInt8).toNat = 1 ∨ cls (50 : UInt8).toNat = 2) := by decide
  have h2 : cls (50 : UInt8).toNat = 3 := by decide
  simp only [if_neg h1, if_pos h2]
  rw [show List.takeWhile isDig [50, 41, 32, 42, 32, 120] = [50] from by decide, if_pos a8_ok2, a8_n2]
theorem a8_t4 : tokL [41, 32, 42, 32, 120] = some (6, [41], 0) := by decide
theorem a8_t5 : tokL [42, 32, 120] = some (6, [42], 0) := by decide
theorem a8_t6 : tokL [120] = some (2, [120], 0) := by decide
def aw8 : ByteArray := ⟨#[40, 49, 32, 43, 32, 50, 41, 32, 42, 32, 120]⟩
theorem a8_lex : lexes aw8 = (0, 0, 0, [⟨1, str [], 0, 1, 1⟩, ⟨6, str [40], 0, 1, 1⟩, ⟨4, str [49], 1, 1, 2⟩, ⟨6, str [43], 0, 1, 4⟩, ⟨4, str [50], 2, 1, 6⟩, ⟨6, str [41], 0, 1, 7⟩, ⟨6, str [42], 0, 1, 9⟩, ⟨2, str [120], 0, 1, 11⟩, ⟨0, str [], 0, 1, 12⟩]) := by
  refine lexes_ok aw8 (by decide) ?_
  have e0 : skipG false aw8.data.toList 1 1 = ([40, 49, 32, 43, 32, 50, 41, 32, 42, 32, 120], 1, 1) := by decide
  have e1 : skipG false ([40, 49, 32, 43, 32, 50, 41, 32, 42, 32, 120].drop 1) 1 2 = ([49, 32, 43, 32, 50, 41, 32, 42, 32, 120], 1, 2) := by decide
  have e2 : skipG false ([49, 32, 43, 32, 50, 41, 32, 42, 32, 120].drop 1) 1 3 = ([43, 32, 50, 41, 32, 42, 32, 120], 1, 4) := by decide
  have e3 : skipG false ([43, 32, 50, 41, 32, 42, 32, 120].drop 1) 1 5 = ([50, 41, 32, 42, 32, 120], 1, 6) := by decide
  have e4 : skipG false ([50, 41, 32, 42, 32, 120].drop 1) 1 7 = ([41, 32, 42, 32, 120], 1, 7) := by decide
  have e5 : skipG false ([41, 32, 42, 32, 120].drop 1) 1 8 = ([42, 32, 120], 1, 9) := by decide
  have e6 : skipG false ([42, 32, 120].drop 1) 1 10 = ([120], 1, 11) := by decide
  have e7 : skipG false ([120].drop 1) 1 12 = ([], 1, 12) := by decide
  rw [scanB, e0, scanS_tok 1 1 (tokL_openX _)]
  simp only [List.length_cons, List.length_nil, Nat.zero_add, Nat.reduceAdd]
  rw [scanB, e1, scanS_tok 1 2 a8_t1]
  simp only [List.length_cons, List.length_nil, Nat.zero_add, Nat.reduceAdd]
  rw [scanB, e2, scanS_tok 1 4 a8_t2]
  simp only [List.length_cons, List.length_nil, Nat.zero_add, Nat.reduceAdd]
  rw [scanB, e3, scanS_tok 1 6 a8_t3]
  simp only [List.length_cons, List.length_nil, Nat.zero_add, Nat.reduceAdd]
  rw [scanB, e4, scanS_tok 1 7 a8_t4]
  simp only [List.length_cons, List.length_nil, Nat.zero_add, Nat.reduceAdd]
  rw [scanB, e5, scanS_tok 1 9 a8_t5]
  simp only [List.length_cons, List.length_nil, Nat.zero_add, Nat.reduceAdd]
  rw [scanB, e6, scanS_tok 1 11 a8_t6]
  simp only [List.length_cons, List.length_nil, Nat.zero_add, Nat.reduceAdd]
  rw [scanB, e7, scanS_nil]
  rfl
def a8T : List Tk := [⟨6, ⟨#[40]⟩, 0, 1, 1⟩, ⟨4, ⟨#[49]⟩, 1, 1, 2⟩, ⟨6, ⟨#[43]⟩, 0, 1, 4⟩, ⟨4, ⟨#[50]⟩, 2, 1, 6⟩, ⟨6, ⟨#[41]⟩, 0, 1, 7⟩, ⟨6, ⟨#[42]⟩, 0, 1, 9⟩, ⟨2, ⟨#[120]⟩, 0, 1, 11⟩, ⟨0, ⟨#[]⟩, 0, 1, 12⟩]
theorem a8_toks : toksE aw8 = a8T := by unfold toksE; rw [a8_lex]; rfl
def a8X : Ex := .mk 5 ⟨#[42]⟩ 0 [.mk 5 ⟨#[43]⟩ 0 [.mk 3 .empty 1 [] 1 2, .mk 3 .empty 2 [] 1 6] 1 4, .mk 1 ⟨#[120]⟩ 0 [] 1 11] 1 9
theorem a8_read : readE a8T 72 .expr 0 0 = some (.ok a8X 7) := by kernel_rfl
theorem a8_parse : parseE aw8 = .ok a8X := by
  unfold parseE
  rw [a8_lex, if_pos rfl]
  unfold fuelE
  rw [a8_toks, show 8 * a8T.length + 8 = 72 from rfl, a8_read]
  rfl
theorem a8_digs : digs 1 = [49] ∧ digs 2 = [50] := by
  have h1 := dec_eq 1
  have h2 := dec_eq 2
  exact ⟨h1, h2⟩
theorem a8_show : showX a8X = aw8 := by
  unfold a8X
  simp only [showX, showXs]
  unfold formX
  simp only [a8_digs]
  rfl
set_option maxRecDepth 100000 in
set_option maxHeartbeats 2000000 in
theorem awake08_any (w : World) : Calls Try.prog 7 #[] w fun e w' => e = .returned (.bool true) ∧ Below w.heap.size w w' := by
  have hp := parse_any aw8 w (by decide)
  rw [a8_parse] at hp
  have HP := Lib.hid hp
  clear hp
  go_enter Try.func7, Try.ntmps7
  go_wp2_with (fail)
  refine HP.out.mono ?_
  rintro _ w1 ⟨a, m, c, rfl, hb, hm⟩
  have HB := Lib.hid hb
  have HS := Lib.hid (showX_any a8X a m c ((w1.alloc (.cells #[.int .i64 a8X.kind, .string a8X.name, .int .i64 a8X.n, .slice a m c, .int .i64 a8X.line, .int .i64 a8X.col] 27)).alloc (.cells #[.int .i64 0, .int .i64 0, .int .i64 0] 30))
    (MemW.alloc (MemW.alloc (hm.mono (fun _ hb => hb.2) fun _ _ => rfl) _) _) (by simp [a8X, NumX, NumXs]) (by rw [a8_show]; decide))
  have hs1 := hb.size
  clear hb hm
  simp only [exV]
  go_wp2_with (fail)
  refine HS.out.mono ?_
  rintro _ w2 ⟨rfl, hb⟩
  rw [a8_show]
  have t8 : (aw8.toList == [40, 49, 32, 43, 32, 50, 41, 32, 42, 32, 120]) = true := by unfold aw8; simp
  have HB2 := Lib.hid hb
  clear hb
  go_wp2_with (fail)
  go_ret
  exact ⟨rfl, ((HB.out.alloc HB.out.size _).alloc (by rw [World.size_alloc]; omega) _).trans (HB2.out.mono (by rw [World.size_alloc, World.size_alloc]; omega))⟩
end Go.Proofs.Ytcoiagfeoonpbaa
