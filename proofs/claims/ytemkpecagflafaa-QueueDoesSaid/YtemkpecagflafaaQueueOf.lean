/-
  The walk of queue.Of. No condition but sizes.
-/
import Derived.Test.YtemkpecagflafaaQueue
import Derived.Test.YtemkpecagflafaaInts
namespace Go.Proofs.Ytemkpecagflafaa
open Go.RowKit

theorem new_queue (w : World) : QP (fun k => w.heap.size ≤ k) w (w.alloc (.cells #[.slice none 0 0, .int .i64 0, .int .i64 0] 101)) w.heap.size [] := by
  have hb : (w.alloc (.cells #[.slice none 0 0, .int .i64 0, .int .i64 0] 101)).heap[w.heap.size]? = some (.cells #[.slice none 0 0, .int .i64 0, .int .i64 0] 101) := (MapKept.heap_alloc w _).1
  refine ⟨Far.of (below_new w _), none, 0, 0, [], Nat.le_refl _, by rw [World.size_alloc]; exact Nat.lt_succ_self _, ?_, ?_, ?_, fun o => ?_, rfl, Nat.le_refl _, by decide, by decide, fun h => absurd h (by decide), fun i hi => absurd hi (by simp)⟩
  · simp only [World.cell?, hb]; rfl
  · simp only [World.cell?, hb]; rfl
  · simp only [World.cell?, hb]; rfl
  · simp only [World.frozen?, hb]; simp
theorem take_snoc_int (l : List Int) (k : Nat) (h : k < l.length) : l.take k ++ [l[k]] = l.take (k + 1) := by
  rw [List.take_succ_eq_append_getElem h]

set_option maxRecDepth 100000 in
set_option maxHeartbeats 2000000 in
theorem qOf_any {B n cap : Nat} {a : Option Addr} {l : List Int} (w : World) (h : Rd B w a n cap 1 (ints l)) (hB : B ≤ w.heap.size) (hn : n ≤ 10000) :
    Calls Try.prog 16 #[.slice a n cap] w fun e w' => e = .returned (.pointer (some ⟨w.heap.size, 0, none⟩)) ∧ QP (fun k => w.heap.size ≤ k) w w' w.heap.size l := by
  have hcap := h.2.1
  have hm := h.2.2.1
  have HL := Lib.hid h.intLen
  have H := Lib.hid (h.le hB)
  clear h hB
  have HS := Lib.hid (new_queue w)
  go_enter Try.func16, Try.ntmps16
  go_wp2
  go_loopw [5, 10] (fun _ i wr => ∃ k : Nat, k ≤ n ∧ i = .int .i64 k ∧ Hid (QP (fun k => w.heap.size ≤ k) w wr w.heap.size (l.take k))) (fun _ i _ => n - (intOf i).toNat)
  case atStart => exact ⟨0, Nat.zero_le _, rfl, HS.out⟩
  case round =>
    obtain ⟨k, hk, rfl, HQ⟩ := hrel
    by_cases hlt : k < n
    · obtain ⟨b, o, rfl, hl, hc⟩ := (H.out.mono (HQ.out.1.toB (Nat.le_refl _))).intAt k hlt
      obtain ⟨hb, a1, m1, f1, ys1, hq⟩ := HQ.out
      have HB := Lib.hid hb
      have HQ1 := Lib.hid hq
      clear hb hq
      have HT := Lib.hid (take_snoc_int l k hl)
      have hlen : (l.take k).length ≤ 10000 := by rw [List.length_take]; omega
      generalize l[k] = x at *
      go_wp2_with fail
      refine (qPush_any x (fun k hk => Nat.le_trans HB.out.size hk) HQ1.out hlen).mono ?_
      rintro e w2 ⟨rfl, hb, hq⟩
      have HB2 := Lib.hid hb
      have HQ2 := Lib.hid hq
      clear hb hq
      go_wp2
      go_roundw
      case rel => exact ⟨k + 1, by omega, by go_num, HB.out.trans HB2.out, by have := HQ2.out; rw [HT.out] at this; exact this⟩
      case measure => simp [intOf]; omega
    · have HT : Hid (l.take k = l) := List.take_of_length_le (by have := HL.out; omega)
      go_wp2
      go_ret
      exact ⟨rfl, by have := HQ.out; rw [HT.out] at this; exact this⟩
end Go.Proofs.Ytemkpecagflafaa
