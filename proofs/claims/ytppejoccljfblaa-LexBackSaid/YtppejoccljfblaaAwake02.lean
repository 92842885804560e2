/-
  whimbrellaw02.awake: it answers true. No condition.
-/
import Derived.Test.YtppejoccljfblaaSameToks
namespace Go.Proofs.Ytppejoccljfblaa
open Go.RowKit
attribute [local go_sem ↓] store_flt
attribute [local go_sem] stOk_flt stB_eq stC_eq wr_drew wr_alloc wr_row wr_drewN

theorem okN_one : okN [49] = true := by
  have h := okN_dec 1
  rw [dec_eq] at h
  exact h
theorem aw_t1 : tokL [102, 32, 120, 32, 61, 32, 49] = some (2, [102], 0) := by decide
theorem aw_t2 : tokL [120, 32, 61, 32, 49] = some (2, [120], 0) := by decide
theorem aw_t3 : tokL [61, 32, 49] = some (6, [61], 0) := by decide
theorem aw_t4 : tokL [49] = some (4, [49], numN [49]) := by
  unfold tokL
  have h1 : ¬ (cls (49 : UInt8).toNat = 1 ∨ cls (49 : UInt8).toNat = 2) := by decide
  have h2 : cls (49 : UInt8).toNat = 3 := by decide
  simp only [if_neg h1, if_pos h2]
  rw [show List.takeWhile isDig [49] = [49] from by decide, if_pos okN_one]
def awStr : ByteArray := ⟨#[102, 32, 120, 32, 61, 32, 49]⟩
theorem aw_lex : lexes awStr = (0, 0, 0, [⟨1, str [], 0, 1, 1⟩, ⟨2, str [102], 0, 1, 1⟩, ⟨2, str [120], 0, 1, 3⟩, ⟨6, str [61], 0, 1, 5⟩, ⟨4, str [49], numN [49], 1, 7⟩, ⟨0, str [], 0, 1, 8⟩]) := by
  refine lexes_ok awStr (by decide) ?_
  have e0 : skipG false awStr.data.toList 1 1 = ([102, 32, 120, 32, 61, 32, 49], 1, 1) := by decide
  have e1 : skipG false ([102, 32, 120, 32, 61, 32, 49].drop 1) 1 2 = ([120, 32, 61, 32, 49], 1, 3) := by decide
  have e2 : skipG false ([120, 32, 61, 32, 49].drop 1) 1 4 = ([61, 32, 49], 1, 5) := by decide
  have e3 : skipG false ([61, 32, 49].drop 1) 1 6 = ([49], 1, 7) := by decide
  have e4 : skipG false ([49].drop 1) 1 8 = ([], 1, 8) := by decide
  rw [scanB, e0, scanS_tok 1 1 aw_t1]
  simp only [List.length_cons, List.length_nil, Nat.zero_add, Nat.reduceAdd]
  rw [scanB, e1, scanS_tok 1 3 aw_t2]
  simp only [List.length_cons, List.length_nil, Nat.zero_add, Nat.reduceAdd]
  rw [scanB, e2, scanS_tok 1 5 aw_t3]
  simp only [List.length_cons, List.length_nil, Nat.zero_add, Nat.reduceAdd]
  rw [scanB, e3, scanS_tok 1 7 aw_t4]
  simp only [List.length_cons, List.length_nil, Nat.zero_add, Nat.reduceAdd]
  rw [scanB, e4, scanS_nil]
  rfl
set_option maxRecDepth 100000 in
set_option maxHeartbeats 2000000 in
theorem awake02_any (w : World) : Calls Try.prog 20 #[] w fun e w' => e = .returned (.bool true) ∧ Below w.heap.size w w' := by
  have hsc := scan_any awStr w (by decide)
  rw [aw_lex] at hsc
  have HSC := Lib.hid hsc
  clear hsc
  go_enter Try.func20, Try.ntmps20
  go_wp2_with (go_at_call 21
               refine HSC.out.mono ?_
               rintro e w1 ⟨a, n, cap, rfl, hb, hR⟩
               obtain rfl : n = 6 := hR.tokLen.symm
               have hcap := hR.2.1
               have hm := hR.2.2.1
               have HB := Lib.hid hb
               have hR' := hR.mono (below_new w1 (.cells #[.int .i64 0, .int .i64 0, .int .i64 0] 38) |>.mono (Nat.le_refl _))
               obtain ⟨b, o, rfl, hbB, _, p0, _⟩ := hR'.tokAt 0 (by decide)
               obtain ⟨b2, o2, hab, _, _, _, _, _, q3, q4⟩ := hR'.tokAt 5 (by decide)
               cases hab
               simp only [Nat.zero_mul, Nat.add_zero, Nat.reduceMul, Nat.add_assoc, Nat.reduceAdd] at p0 q3 q4
               clear hb hR hR')
  go_ret
  exact ⟨rfl, HB.out.alloc HB.out.size _⟩
end Go.Proofs.Ytppejoccljfblaa
