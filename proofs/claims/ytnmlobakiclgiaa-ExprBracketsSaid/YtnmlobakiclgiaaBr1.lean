/-
  'a op b op c' for each operator: what is parsed; how many letters of a text may open something. No condition but sizes.
-/
import Derived.Test.YtnmlobakiclgiaaBr0
import Derived.Deep.Cut
namespace Go.Proofs.Ytnmlobakiclgiaa
open Go.RowKit

def opT (op : ByteArray) : ByteArray := ⟨#[97, 32]⟩ ++ op ++ ⟨#[32, 98, 32]⟩ ++ op ++ ⟨#[32, 99]⟩
theorem bad_kind {s : ByteArray} {k l c : Int} (h : parseE s = .bad k l c) : k ≠ 0 := by
  unfold parseE at h
  split at h
  · rename_i h0
    obtain ⟨r, hr, _⟩ := parse_parts h0
    rw [hr] at h
    cases r with
    | ok x j => simp only at h; split at h <;> (cases h <;> decide)
    | bad l c => cases h; decide
  · rename_i h0
    cases h
    exact h0
def s_or : ByteArray := ⟨#[97, 32, 63, 32, 98, 32, 63, 32, 99]⟩
theorem t_or0 : tokL [97, 32, 63, 32, 98, 32, 63, 32, 99] = some (2, [97], 0) := by decide
theorem t_or1 : tokL [63, 32, 98, 32, 63, 32, 99] = some (6, [63], 0) := by decide
theorem t_or2 : tokL [98, 32, 63, 32, 99] = some (2, [98], 0) := by decide
theorem t_or3 : tokL [63, 32, 99] = some (6, [63], 0) := by decide
theorem t_or4 : tokL [99] = some (2, [99], 0) := by decide
theorem x_or : lexes s_or = (0, 0, 0, [⟨1, str [], 0, 1, 1⟩, ⟨2, str [97], 0, 1, 1⟩, ⟨6, str [63], 0, 1, 3⟩, ⟨2, str [98], 0, 1, 5⟩, ⟨6, str [63], 0, 1, 7⟩, ⟨2, str [99], 0, 1, 9⟩, ⟨0, str [], 0, 1, 10⟩]) := by
  refine lexes_ok s_or (by decide) ?_
  have e0 : skipG false s_or.data.toList 1 1 = ([97, 32, 63, 32, 98, 32, 63, 32, 99], 1, 1) := by decide
  have e1 : skipG false ([97, 32, 63, 32, 98, 32, 63, 32, 99].drop 1) 1 2 = ([63, 32, 98, 32, 63, 32, 99], 1, 3) := by decide
  have e2 : skipG false ([63, 32, 98, 32, 63, 32, 99].drop 1) 1 4 = ([98, 32, 63, 32, 99], 1, 5) := by decide
  have e3 : skipG false ([98, 32, 63, 32, 99].drop 1) 1 6 = ([63, 32, 99], 1, 7) := by decide
  have e4 : skipG false ([63, 32, 99].drop 1) 1 8 = ([99], 1, 9) := by decide
  have e5 : skipG false ([99].drop 1) 1 10 = ([], 1, 10) := by decide
  rw [scanB, e0, scanS_tok 1 1 t_or0]
  simp only [List.length_cons, List.length_nil, Nat.zero_add, Nat.reduceAdd]
  rw [scanB, e1, scanS_tok 1 3 t_or1]
  simp only [List.length_cons, List.length_nil, Nat.zero_add, Nat.reduceAdd]
  rw [scanB, e2, scanS_tok 1 5 t_or2]
  simp only [List.length_cons, List.length_nil, Nat.zero_add, Nat.reduceAdd]
  rw [scanB, e3, scanS_tok 1 7 t_or3]
  simp only [List.length_cons, List.length_nil, Nat.zero_add, Nat.reduceAdd]
  rw [scanB, e4, scanS_tok 1 9 t_or4]
  simp only [List.length_cons, List.length_nil, Nat.zero_add, Nat.reduceAdd]
  rw [scanB, e5, scanS_nil]
  rfl
def k_or : List Tk := [⟨2, ⟨#[97]⟩, 0, 1, 1⟩, ⟨6, ⟨#[63]⟩, 0, 1, 3⟩, ⟨2, ⟨#[98]⟩, 0, 1, 5⟩, ⟨6, ⟨#[63]⟩, 0, 1, 7⟩, ⟨2, ⟨#[99]⟩, 0, 1, 9⟩, ⟨0, ⟨#[]⟩, 0, 1, 10⟩]
theorem ks_or : toksE s_or = k_or := by unfold toksE; rw [x_or]; rfl
def e_or : Ex := .mk 5 ⟨#[63]⟩ 0 [.mk 1 ⟨#[97]⟩ 0 [] 1 1, .mk 5 ⟨#[63]⟩ 0 [.mk 1 ⟨#[98]⟩ 0 [] 1 5, .mk 1 ⟨#[99]⟩ 0 [] 1 9] 1 7] 1 3
theorem r_or : readE k_or 56 .expr 0 0 = some (.ok e_or 5) := by kernel_rfl
theorem p_or : parseE (opT ⟨#[63]⟩) = .ok e_or := by
  rw [show opT ⟨#[63]⟩ = s_or from by rfl]
  unfold parseE
  rw [x_or, if_pos rfl]
  unfold fuelE
  rw [ks_or, show 8 * k_or.length + 8 = 56 from rfl, r_or]
  rfl
def s_eq : ByteArray := ⟨#[97, 32, 61, 61, 32, 98, 32, 61, 61, 32, 99]⟩
theorem t_eq0 : tokL [97, 32, 61, 61, 32, 98, 32, 61, 61, 32, 99] = some (2, [97], 0) := by decide
theorem t_eq1 : tokL [61, 61, 32, 98, 32, 61, 61, 32, 99] = some (6, [61, 61], 0) := by decide
theorem t_eq2 : tokL [98, 32, 61, 61, 32, 99] = some (2, [98], 0) := by decide
theorem t_eq3 : tokL [61, 61, 32, 99] = some (6, [61, 61], 0) := by decide
theorem t_eq4 : tokL [99] = some (2, [99], 0) := by decide
theorem x_eq : lexes s_eq = (0, 0, 0, [⟨1, str [], 0, 1, 1⟩, ⟨2, str [97], 0, 1, 1⟩, ⟨6, str [61, 61], 0, 1, 3⟩, ⟨2, str [98], 0, 1, 6⟩, ⟨6, str [61, 61], 0, 1, 8⟩, ⟨2, str [99], 0, 1, 11⟩, ⟨0, str [], 0, 1, 12⟩]) := by
  refine lexes_ok s_eq (by decide) ?_
  have e0 : skipG false s_eq.data.toList 1 1 = ([97, 32, 61, 61, 32, 98, 32, 61, 61, 32, 99], 1, 1) := by decide
  have e1 : skipG false ([97, 32, 61, 61, 32, 98, 32, 61, 61, 32, 99].drop 1) 1 2 = ([61, 61, 32, 98, 32, 61, 61, 32, 99], 1, 3) := by decide
  have e2 : skipG false ([61, 61, 32, 98, 32, 61, 61, 32, 99].drop 2) 1 5 = ([98, 32, 61, 61, 32, 99], 1, 6) := by decide
  have e3 : skipG false ([98, 32, 61, 61, 32, 99].drop 1) 1 7 = ([61, 61, 32, 99], 1, 8) := by decide
  have e4 : skipG false ([61, 61, 32, 99].drop 2) 1 10 = ([99], 1, 11) := by decide
  have e5 : skipG false ([99].drop 1) 1 12 = ([], 1, 12) := by decide
  rw [scanB, e0, scanS_tok 1 1 t_eq0]
  simp only [List.length_cons, List.length_nil, Nat.zero_add, Nat.reduceAdd]
  rw [scanB, e1, scanS_tok 1 3 t_eq1]
  simp only [List.length_cons, List.length_nil, Nat.zero_add, Nat.reduceAdd]
  rw [scanB, e2, scanS_tok 1 6 t_eq2]
  simp only [List.length_cons, List.length_nil, Nat.zero_add, Nat.reduceAdd]
  rw [scanB, e3, scanS_tok 1 8 t_eq3]
  simp only [List.length_cons, List.length_nil, Nat.zero_add, Nat.reduceAdd]
  rw [scanB, e4, scanS_tok 1 11 t_eq4]
  simp only [List.length_cons, List.length_nil, Nat.zero_add, Nat.reduceAdd]
  rw [scanB, e5, scanS_nil]
  rfl
def k_eq : List Tk := [⟨2, ⟨#[97]⟩, 0, 1, 1⟩, ⟨6, ⟨#[61, 61]⟩, 0, 1, 3⟩, ⟨2, ⟨#[98]⟩, 0, 1, 6⟩, ⟨6, ⟨#[61, 61]⟩, 0, 1, 8⟩, ⟨2, ⟨#[99]⟩, 0, 1, 11⟩, ⟨0, ⟨#[]⟩, 0, 1, 12⟩]
theorem ks_eq : toksE s_eq = k_eq := by unfold toksE; rw [x_eq]; rfl
theorem r_eq : readE k_eq 56 .expr 0 0 = some (.ok (.mk 5 ⟨#[61, 61]⟩ 0 [.mk 1 ⟨#[97]⟩ 0 [] 1 1, .mk 1 ⟨#[98]⟩ 0 [] 1 6] 1 3) 3) := by kernel_rfl
theorem p_eq : parseE (opT ⟨#[61, 61]⟩) = .bad 1 1 8 := by
  rw [show opT ⟨#[61, 61]⟩ = s_eq from by rfl]
  unfold parseE
  rw [x_eq, if_pos rfl]
  unfold fuelE
  rw [ks_eq, show 8 * k_eq.length + 8 = 56 from rfl, r_eq]
  rfl
def s_lt : ByteArray := ⟨#[97, 32, 60, 32, 98, 32, 60, 32, 99]⟩
theorem t_lt0 : tokL [97, 32, 60, 32, 98, 32, 60, 32, 99] = some (2, [97], 0) := by decide
theorem t_lt1 : tokL [60, 32, 98, 32, 60, 32, 99] = some (6, [60], 0) := by decide
theorem t_lt2 : tokL [98, 32, 60, 32, 99] = some (2, [98], 0) := by decide
theorem t_lt3 : tokL [60, 32, 99] = some (6, [60], 0) := by decide
theorem t_lt4 : tokL [99] = some (2, [99], 0) := by decide
theorem x_lt : lexes s_lt = (0, 0, 0, [⟨1, str [], 0, 1, 1⟩, ⟨2, str [97], 0, 1, 1⟩, ⟨6, str [60], 0, 1, 3⟩, ⟨2, str [98], 0, 1, 5⟩, ⟨6, str [60], 0, 1, 7⟩, ⟨2, str [99], 0, 1, 9⟩, ⟨0, str [], 0, 1, 10⟩]) := by
  refine lexes_ok s_lt (by decide) ?_
  have e0 : skipG false s_lt.data.toList 1 1 = ([97, 32, 60, 32, 98, 32, 60, 32, 99], 1, 1) := by decide
  have e1 : skipG false ([97, 32, 60, 32, 98, 32, 60, 32, 99].drop 1) 1 2 = ([60, 32, 98, 32, 60, 32, 99], 1, 3) := by decide
  have e2 : skipG false ([60, 32, 98, 32, 60, 32, 99].drop 1) 1 4 = ([98, 32, 60, 32, 99], 1, 5) := by decide
  have e3 : skipG false ([98, 32, 60, 32, 99].drop 1) 1 6 = ([60, 32, 99], 1, 7) := by decide
  have e4 : skipG false ([60, 32, 99].drop 1) 1 8 = ([99], 1, 9) := by decide
  have e5 : skipG false ([99].drop 1) 1 10 = ([], 1, 10) := by decide
  rw [scanB, e0, scanS_tok 1 1 t_lt0]
  simp only [List.length_cons, List.length_nil, Nat.zero_add, Nat.reduceAdd]
  rw [scanB, e1, scanS_tok 1 3 t_lt1]
  simp only [List.length_cons, List.length_nil, Nat.zero_add, Nat.reduceAdd]
  rw [scanB, e2, scanS_tok 1 5 t_lt2]
  simp only [List.length_cons, List.length_nil, Nat.zero_add, Nat.reduceAdd]
  rw [scanB, e3, scanS_tok 1 7 t_lt3]
  simp only [List.length_cons, List.length_nil, Nat.zero_add, Nat.reduceAdd]
  rw [scanB, e4, scanS_tok 1 9 t_lt4]
  simp only [List.length_cons, List.length_nil, Nat.zero_add, Nat.reduceAdd]
  rw [scanB, e5, scanS_nil]
  rfl
def k_lt : List Tk := [⟨2, ⟨#[97]⟩, 0, 1, 1⟩, ⟨6, ⟨#[60]⟩, 0, 1, 3⟩, ⟨2, ⟨#[98]⟩, 0, 1, 5⟩, ⟨6, ⟨#[60]⟩, 0, 1, 7⟩, ⟨2, ⟨#[99]⟩, 0, 1, 9⟩, ⟨0, ⟨#[]⟩, 0, 1, 10⟩]
theorem ks_lt : toksE s_lt = k_lt := by unfold toksE; rw [x_lt]; rfl
theorem r_lt : readE k_lt 56 .expr 0 0 = some (.ok (.mk 5 ⟨#[60]⟩ 0 [.mk 1 ⟨#[97]⟩ 0 [] 1 1, .mk 1 ⟨#[98]⟩ 0 [] 1 5] 1 3) 3) := by kernel_rfl
theorem p_lt : parseE (opT ⟨#[60]⟩) = .bad 1 1 7 := by
  rw [show opT ⟨#[60]⟩ = s_lt from by rfl]
  unfold parseE
  rw [x_lt, if_pos rfl]
  unfold fuelE
  rw [ks_lt, show 8 * k_lt.length + 8 = 56 from rfl, r_lt]
  rfl
def s_add : ByteArray := ⟨#[97, 32, 43, 32, 98, 32, 43, 32, 99]⟩
theorem t_add0 : tokL [97, 32, 43, 32, 98, 32, 43, 32, 99] = some (2, [97], 0) := by decide
theorem t_add1 : tokL [43, 32, 98, 32, 43, 32, 99] = some (6, [43], 0) := by decide
theorem t_add2 : tokL [98, 32, 43, 32, 99] = some (2, [98], 0) := by decide
theorem t_add3 : tokL [43, 32, 99] = some (6, [43], 0) := by decide
theorem t_add4 : tokL [99] = some (2, [99], 0) := by decide
theorem x_add : lexes s_add = (0, 0, 0, [⟨1, str [], 0, 1, 1⟩, ⟨2, str [97], 0, 1, 1⟩, ⟨6, str [43], 0, 1, 3⟩, ⟨2, str [98], 0, 1, 5⟩, ⟨6, str [43], 0, 1, 7⟩, ⟨2, str [99], 0, 1, 9⟩, ⟨0, str [], 0, 1, 10⟩]) := by
  refine lexes_ok s_add (by decide) ?_
  have e0 : skipG false s_add.data.toList 1 1 = ([97, 32, 43, 32, 98, 32, 43, 32, 99], 1, 1) := by decide
  have e1 : skipG false ([97, 32, 43, 32, 98, 32, 43, 32, 99].drop 1) 1 2 = ([43, 32, 98, 32, 43, 32, 99], 1, 3) := by decide
  have e2 : skipG false ([43, 32, 98, 32, 43, 32, 99].drop 1) 1 4 = ([98, 32, 43, 32, 99], 1, 5) := by decide
  have e3 : skipG false ([98, 32, 43, 32, 99].drop 1) 1 6 = ([43, 32, 99], 1, 7) := by decide
  have e4 : skipG false ([43, 32, 99].drop 1) 1 8 = ([99], 1, 9) := by decide
  have e5 : skipG false ([99].drop 1) 1 10 = ([], 1, 10) := by decide
  rw [scanB, e0, scanS_tok 1 1 t_add0]
  simp only [List.length_cons, List.length_nil, Nat.zero_add, Nat.reduceAdd]
  rw [scanB, e1, scanS_tok 1 3 t_add1]
  simp only [List.length_cons, List.length_nil, Nat.zero_add, Nat.reduceAdd]
  rw [scanB, e2, scanS_tok 1 5 t_add2]
  simp only [List.length_cons, List.length_nil, Nat.zero_add, Nat.reduceAdd]
  rw [scanB, e3, scanS_tok 1 7 t_add3]
  simp only [List.length_cons, List.length_nil, Nat.zero_add, Nat.reduceAdd]
  rw [scanB, e4, scanS_tok 1 9 t_add4]
  simp only [List.length_cons, List.length_nil, Nat.zero_add, Nat.reduceAdd]
  rw [scanB, e5, scanS_nil]
  rfl
def k_add : List Tk := [⟨2, ⟨#[97]⟩, 0, 1, 1⟩, ⟨6, ⟨#[43]⟩, 0, 1, 3⟩, ⟨2, ⟨#[98]⟩, 0, 1, 5⟩, ⟨6, ⟨#[43]⟩, 0, 1, 7⟩, ⟨2, ⟨#[99]⟩, 0, 1, 9⟩, ⟨0, ⟨#[]⟩, 0, 1, 10⟩]
theorem ks_add : toksE s_add = k_add := by unfold toksE; rw [x_add]; rfl
def e_add : Ex := .mk 5 ⟨#[43]⟩ 0 [.mk 5 ⟨#[43]⟩ 0 [.mk 1 ⟨#[97]⟩ 0 [] 1 1, .mk 1 ⟨#[98]⟩ 0 [] 1 5] 1 3, .mk 1 ⟨#[99]⟩ 0 [] 1 9] 1 7
theorem r_add : readE k_add 56 .expr 0 0 = some (.ok e_add 5) := by kernel_rfl
theorem p_add : parseE (opT ⟨#[43]⟩) = .ok e_add := by
  rw [show opT ⟨#[43]⟩ = s_add from by rfl]
  unfold parseE
  rw [x_add, if_pos rfl]
  unfold fuelE
  rw [ks_add, show 8 * k_add.length + 8 = 56 from rfl, r_add]
  rfl
def s_sub : ByteArray := ⟨#[97, 32, 45, 32, 98, 32, 45, 32, 99]⟩
theorem t_sub0 : tokL [97, 32, 45, 32, 98, 32, 45, 32, 99] = some (2, [97], 0) := by decide
theorem t_sub1 : tokL [45, 32, 98, 32, 45, 32, 99] = some (6, [45], 0) := by decide
theorem t_sub2 : tokL [98, 32, 45, 32, 99] = some (2, [98], 0) := by decide
theorem t_sub3 : tokL [45, 32, 99] = some (6, [45], 0) := by decide
theorem t_sub4 : tokL [99] = some (2, [99], 0) := by decide
theorem x_sub : lexes s_sub = (0, 0, 0, [⟨1, str [], 0, 1, 1⟩, ⟨2, str [97], 0, 1, 1⟩, ⟨6, str [45], 0, 1, 3⟩, ⟨2, str [98], 0, 1, 5⟩, ⟨6, str [45], 0, 1, 7⟩, ⟨2, str [99], 0, 1, 9⟩, ⟨0, str [], 0, 1, 10⟩]) := by
  refine lexes_ok s_sub (by decide) ?_
  have e0 : skipG false s_sub.data.toList 1 1 = ([97, 32, 45, 32, 98, 32, 45, 32, 99], 1, 1) := by decide
  have e1 : skipG false ([97, 32, 45, 32, 98, 32, 45, 32, 99].drop 1) 1 2 = ([45, 32, 98, 32, 45, 32, 99], 1, 3) := by decide
  have e2 : skipG false ([45, 32, 98, 32, 45, 32, 99].drop 1) 1 4 = ([98, 32, 45, 32, 99], 1, 5) := by decide
  have e3 : skipG false ([98, 32, 45, 32, 99].drop 1) 1 6 = ([45, 32, 99], 1, 7) := by decide
  have e4 : skipG false ([45, 32, 99].drop 1) 1 8 = ([99], 1, 9) := by decide
  have e5 : skipG false ([99].drop 1) 1 10 = ([], 1, 10) := by decide
  rw [scanB, e0, scanS_tok 1 1 t_sub0]
  simp only [List.length_cons, List.length_nil, Nat.zero_add, Nat.reduceAdd]
  rw [scanB, e1, scanS_tok 1 3 t_sub1]
  simp only [List.length_cons, List.length_nil, Nat.zero_add, Nat.reduceAdd]
  rw [scanB, e2, scanS_tok 1 5 t_sub2]
  simp only [List.length_cons, List.length_nil, Nat.zero_add, Nat.reduceAdd]
  rw [scanB, e3, scanS_tok 1 7 t_sub3]
  simp only [List.length_cons, List.length_nil, Nat.zero_add, Nat.reduceAdd]
  rw [scanB, e4, scanS_tok 1 9 t_sub4]
  simp only [List.length_cons, List.length_nil, Nat.zero_add, Nat.reduceAdd]
  rw [scanB, e5, scanS_nil]
  rfl
def k_sub : List Tk := [⟨2, ⟨#[97]⟩, 0, 1, 1⟩, ⟨6, ⟨#[45]⟩, 0, 1, 3⟩, ⟨2, ⟨#[98]⟩, 0, 1, 5⟩, ⟨6, ⟨#[45]⟩, 0, 1, 7⟩, ⟨2, ⟨#[99]⟩, 0, 1, 9⟩, ⟨0, ⟨#[]⟩, 0, 1, 10⟩]
theorem ks_sub : toksE s_sub = k_sub := by unfold toksE; rw [x_sub]; rfl
def e_sub : Ex := .mk 5 ⟨#[45]⟩ 0 [.mk 5 ⟨#[45]⟩ 0 [.mk 1 ⟨#[97]⟩ 0 [] 1 1, .mk 1 ⟨#[98]⟩ 0 [] 1 5] 1 3, .mk 1 ⟨#[99]⟩ 0 [] 1 9] 1 7
theorem r_sub : readE k_sub 56 .expr 0 0 = some (.ok e_sub 5) := by kernel_rfl
theorem p_sub : parseE (opT ⟨#[45]⟩) = .ok e_sub := by
  rw [show opT ⟨#[45]⟩ = s_sub from by rfl]
  unfold parseE
  rw [x_sub, if_pos rfl]
  unfold fuelE
  rw [ks_sub, show 8 * k_sub.length + 8 = 56 from rfl, r_sub]
  rfl
def s_mul : ByteArray := ⟨#[97, 32, 42, 32, 98, 32, 42, 32, 99]⟩
theorem t_mul0 : tokL [97, 32, 42, 32, 98, 32, 42, 32, 99] = some (2, [97], 0) := by decide
theorem t_mul1 : tokL [42, 32, 98, 32, 42, 32, 99] = some (6, [42], 0) := by decide
theorem t_mul2 : tokL [98, 32, 42, 32, 99] = some (2, [98], 0) := by decide
theorem t_mul3 : tokL [42, 32, 99] = some (6, [42], 0) := by decide
theorem t_mul4 : tokL [99] = some (2, [99], 0) := by decide
theorem x_mul : lexes s_mul = (0, 0, 0, [⟨1, str [], 0, 1, 1⟩, ⟨2, str [97], 0, 1, 1⟩, ⟨6, str [42], 0, 1, 3⟩, ⟨2, str [98], 0, 1, 5⟩, ⟨6, str [42], 0, 1, 7⟩, ⟨2, str [99], 0, 1, 9⟩, ⟨0, str [], 0, 1, 10⟩]) := by
  refine lexes_ok s_mul (by decide) ?_
  have e0 : skipG false s_mul.data.toList 1 1 = ([97, 32, 42, 32, 98, 32, 42, 32, 99], 1, 1) := by decide
  have e1 : skipG false ([97, 32, 42, 32, 98, 32, 42, 32, 99].drop 1) 1 2 = ([42, 32, 98, 32, 42, 32, 99], 1, 3) := by decide
  have e2 : skipG false ([42, 32, 98, 32, 42, 32, 99].drop 1) 1 4 = ([98, 32, 42, 32, 99], 1, 5) := by decide
  have e3 : skipG false ([98, 32, 42, 32, 99].drop 1) 1 6 = ([42, 32, 99], 1, 7) := by decide
  have e4 : skipG false ([42, 32, 99].drop 1) 1 8 = ([99], 1, 9) := by decide
  have e5 : skipG false ([99].drop 1) 1 10 = ([], 1, 10) := by decide
  rw [scanB, e0, scanS_tok 1 1 t_mul0]
  simp only [List.length_cons, List.length_nil, Nat.zero_add, Nat.reduceAdd]
  rw [scanB, e1, scanS_tok 1 3 t_mul1]
  simp only [List.length_cons, List.length_nil, Nat.zero_add, Nat.reduceAdd]
  rw [scanB, e2, scanS_tok 1 5 t_mul2]
  simp only [List.length_cons, List.length_nil, Nat.zero_add, Nat.reduceAdd]
  rw [scanB, e3, scanS_tok 1 7 t_mul3]
  simp only [List.length_cons, List.length_nil, Nat.zero_add, Nat.reduceAdd]
  rw [scanB, e4, scanS_tok 1 9 t_mul4]
  simp only [List.length_cons, List.length_nil, Nat.zero_add, Nat.reduceAdd]
  rw [scanB, e5, scanS_nil]
  rfl
def k_mul : List Tk := [⟨2, ⟨#[97]⟩, 0, 1, 1⟩, ⟨6, ⟨#[42]⟩, 0, 1, 3⟩, ⟨2, ⟨#[98]⟩, 0, 1, 5⟩, ⟨6, ⟨#[42]⟩, 0, 1, 7⟩, ⟨2, ⟨#[99]⟩, 0, 1, 9⟩, ⟨0, ⟨#[]⟩, 0, 1, 10⟩]
theorem ks_mul : toksE s_mul = k_mul := by unfold toksE; rw [x_mul]; rfl
def e_mul : Ex := .mk 5 ⟨#[42]⟩ 0 [.mk 5 ⟨#[42]⟩ 0 [.mk 1 ⟨#[97]⟩ 0 [] 1 1, .mk 1 ⟨#[98]⟩ 0 [] 1 5] 1 3, .mk 1 ⟨#[99]⟩ 0 [] 1 9] 1 7
theorem r_mul : readE k_mul 56 .expr 0 0 = some (.ok e_mul 5) := by kernel_rfl
theorem p_mul : parseE (opT ⟨#[42]⟩) = .ok e_mul := by
  rw [show opT ⟨#[42]⟩ = s_mul from by rfl]
  unfold parseE
  rw [x_mul, if_pos rfl]
  unfold fuelE
  rw [ks_mul, show 8 * k_mul.length + 8 = 56 from rfl, r_mul]
  rfl
theorem isD_int (c : UInt8) : isD c = ((c.toNat : Int) == 40 || ((c.toNat : Int) == 105 || (c.toNat : Int) == 108)) := by
  unfold isD
  have h : ∀ (k : UInt8), (c == k) = ((c.toNat : Int) == (k.toNat : Int)) := fun k => by
    rw [Bool.eq_iff_iff, beq_iff_eq, beq_iff_eq, ← UInt8.toNat_inj]
    omega
  rw [h 40, h 105, h 108]; rfl
theorem cnt_snoc (s : ByteArray) (k : Nat) (h : k < s.size) : (s.data.toList.take (k + 1)).countP isD = (s.data.toList.take k).countP isD + if isD s[k] = true then 1 else 0 := by
  rw [take_snoc s k h, List.countP_append, List.countP_singleton]
def dpN (s : ByteArray) : Nat := s.data.toList.countP isD
set_option maxRecDepth 100000 in
set_option maxHeartbeats 2000000 in
theorem depth_any (s : ByteArray) (w : World) (hs : s.size ≤ maxLen) : Calls Try.prog 10 #[.string s] w fun e w' => e = .returned (.int .i64 (dpN s : Nat)) ∧ w = w' := by
  unfold maxLen at hs
  go_enter Try.func10, Try.ntmps10
  go_wp2
  go_loop [3, 4] (fun n i => ∃ k v : Nat, k ≤ s.size ∧ i = .int .i64 k ∧ n = .int .i64 v ∧ v ≤ k ∧ Hid ((s.data.toList.take k).countP isD = v)) (fun _ i => s.size - (intOf i).toNat)
  case atStart => exact ⟨0, 0, Nat.zero_le _, rfl, rfl, Nat.le_refl _, rfl⟩
  case round =>
    obtain ⟨k, v, hk, rfl, rfl, hv, HV⟩ := hrel
    by_cases hlt : k < s.size
    · have HS := Lib.hid (cnt_snoc s k hlt)
      have HI := Lib.hid (isD_int s[k])
      cases h1 : ((s[k].toNat : Int) == 40) with
      | true =>
        have HN : Hid ((s.data.toList.take (k + 1)).countP isD = v + 1) := Lib.hid (by rw [HS.out, HV.out, HI.out, h1]; rfl)
        go_wp2
        go_round
        case rel => exact ⟨k + 1, v + 1, by omega, by go_num, by go_num, by omega, HN.out⟩
        case measure => simp [intOf]; omega
      | false =>
        cases h2 : ((s[k].toNat : Int) == 105) with
        | true =>
          have HN : Hid ((s.data.toList.take (k + 1)).countP isD = v + 1) := Lib.hid (by rw [HS.out, HV.out, HI.out, h1, h2]; rfl)
          go_wp2
          go_round
          case rel => exact ⟨k + 1, v + 1, by omega, by go_num, by go_num, by omega, HN.out⟩
          case measure => simp [intOf]; omega
        | false =>
          cases h3 : ((s[k].toNat : Int) == 108) with
          | true =>
            have HN : Hid ((s.data.toList.take (k + 1)).countP isD = v + 1) := Lib.hid (by rw [HS.out, HV.out, HI.out, h1, h2, h3]; rfl)
            go_wp2
            go_round
            case rel => exact ⟨k + 1, v + 1, by omega, by go_num, by go_num, by omega, HN.out⟩
            case measure => simp [intOf]; omega
          | false =>
            have HN : Hid ((s.data.toList.take (k + 1)).countP isD = v) := Lib.hid (by rw [HS.out, HV.out, HI.out, h1, h2, h3]; rfl)
            go_wp2
            go_round
            case rel => exact ⟨k + 1, v, by omega, by go_num, rfl, by omega, HN.out⟩
            case measure => simp [intOf]; omega
    · have HN : Hid (dpN s = v) := Lib.hid (by unfold dpN; have h := HV.out; rwa [take_all s k hlt] at h)
      go_wp2
      go_ret
      exact ⟨by rw [HN.out]; rfl, rfl⟩
end Go.Proofs.Ytnmlobakiclgiaa
