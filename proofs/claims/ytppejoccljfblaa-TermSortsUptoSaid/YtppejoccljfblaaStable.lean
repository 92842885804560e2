/-
  slices.stableCmpFunc and slices.SortStableFunc at terms, up to 39 of them. No condition but that, and how they lie.
-/
import Derived.Test.YtppejoccljfblaaSymMerge2
namespace Go.Proofs.Ytppejoccljfblaa
open Go.RowKit

/-- What is sorted. -/
structure Done (w0 : World) (q o : Nat) (d d' : Array El) (w : World) : Prop where
  ss : SS w0 q o d' w
  perm : Sort.PermIn 0 d.size d d'
  sorted : Sort.SortedIn ltE 0 d.size d'
theorem insert_two {d : Array El} (n : Nat) (h20 : 20 ≤ n) (hn : n ≤ d.size) :
    Sort.PermIn 0 d.size d (Sort.insertionSort ltE (Sort.insertionSort ltE d 0 20) 20 n) ∧ Sort.SortedIn ltE 0 20 (Sort.insertionSort ltE (Sort.insertionSort ltE d 0 20) 20 n) ∧ Sort.SortedIn ltE 20 n (Sort.insertionSort ltE (Sort.insertionSort ltE d 0 20) 20 n) := by
  obtain ⟨p1, s1⟩ := Sort.insertionSort_holds swo_ltE d 0 20 (by omega) (by omega)
  obtain ⟨p2, s2⟩ := Sort.insertionSort_holds swo_ltE (Sort.insertionSort ltE d 0 20) 20 n h20 (by rw [p1.1]; exact hn)
  refine ⟨Sort.permIn_trans _ _ _ _ _ (Sort.permIn_mono _ _ _ _ _ _ (Nat.le_refl _) (by omega) (Nat.le_refl _) p1) (Sort.permIn_mono _ _ _ _ _ _ (Nat.zero_le _) hn (by rw [p1.1]; exact Nat.le_refl _) p2), sorted_off p2 s1 (.inr (Nat.le_refl _)), s2⟩

set_option maxRecDepth 100000 in
set_option maxHeartbeats 2000000 in
theorem stable_small {w0 w : World} {q o : Nat} {d : Array El} (cap : Nat) (h : SS w0 q o d w) (hsz : d.size < 20) :
    Calls Try.prog 161 #[.slice (some ⟨q, o, none⟩) d.size cap, .int .i64 d.size, .func (.func 112) #[] #[]] w fun e w' => e = .returned (.tuple #[]) ∧ ∃ d', Done w0 q o d d' w' := by
  have H := Lib.hid h
  clear h
  obtain ⟨n, hn⟩ : ∃ n, d.size = n := ⟨_, rfl⟩
  have HP := Lib.hid (Sort.insertionSort_holds swo_ltE d 0 d.size (Nat.zero_le _) (Nat.le_refl _))
  have z1 : ¬ (20 : Int) ≤ (d.size : Int) := by omega
  have z2 : ¬ (20 : Int) < (d.size : Int) := by omega
  clear hn
  go_enter Try.func161, Try.ntmps161
  go_wp2
  go_loopw [7, 8] (fun va vb wr => va = .int .i64 0 ∧ vb = .int .i64 20 ∧ Hid (SS w0 q o d wr)) (fun _ _ _ => 0)
  case atStart => exact ⟨rfl, rfl, H.out⟩
  case round =>
    obtain ⟨rfl, rfl, HS⟩ := hrel
    go_wp2_with (first | (go_at_call 183 ; refine (insertion_any (a := 0) (b := d.size) cap HS.out (Nat.zero_le _) (Nat.le_refl _) (by omega)).mono ?_; rintro e w2 ⟨rfl, hs⟩; have HS2 := Lib.hid hs; clear hs))
    go_loopw [6] (fun vs wr => vs = .int .i64 20 ∧ Hid (SS w0 q o (Sort.insertionSort ltE d 0 d.size) wr)) (fun _ _ => 0)
    case atStart => exact ⟨rfl, HS2.out⟩
    case round =>
      obtain ⟨rfl, HS3⟩ := hrel
      go_wp2
      go_end0
      exact ⟨rfl, _, HS3.out, HP.out.1, HP.out.2⟩
set_option maxRecDepth 100000 in
set_option maxHeartbeats 2000000 in
theorem stable_large {w0 w : World} {q o : Nat} {d : Array El} (cap : Nat) (h : SS w0 q o d w) (h20 : 20 ≤ d.size) (hsz : d.size < 40) :
    Calls Try.prog 161 #[.slice (some ⟨q, o, none⟩) d.size cap, .int .i64 d.size, .func (.func 112) #[] #[]] w fun e w' => e = .returned (.tuple #[]) ∧ ∃ d', Done w0 q o d d' w' := by
  have H := Lib.hid h
  clear h
  obtain ⟨p1, s1⟩ := Sort.insertionSort_holds swo_ltE d 0 20 (by omega) h20
  obtain ⟨d1, hd1⟩ : ∃ d1, Sort.insertionSort ltE d 0 20 = d1 := ⟨_, rfl⟩
  obtain ⟨d2, hd2⟩ : ∃ d2, Sort.insertionSort ltE d1 20 d.size = d2 := ⟨_, rfl⟩
  have HT := Lib.hid (insert_two d.size h20 (Nat.le_refl _))
  rw [hd1] at p1 HT
  rw [hd2] at HT
  have hz1 : d1.size = d.size := p1.1
  have hz2 : d2.size = d.size := HT.out.1.1
  have HD1 := Lib.hid hd1
  have HD2 := Lib.hid hd2
  clear p1 s1 hd1 hd2
  have z1 : (20 : Int) ≤ (d.size : Int) := by omega
  have z2 : ¬ (40 : Int) ≤ (d.size : Int) := by omega
  have z3 : ¬ (40 : Int) < (d.size : Int) := by omega
  go_enter Try.func161, Try.ntmps161
  go_wp2
  go_loopw [7, 8] (fun va vb wr => (va = .int .i64 0 ∧ vb = .int .i64 20 ∧ Hid (SS w0 q o d wr)) ∨ (va = .int .i64 20 ∧ vb = .int .i64 40 ∧ Hid (SS w0 q o d1 wr))) (fun va _ _ => 20 - (intOf va).toNat)
  case atStart => exact .inl ⟨rfl, rfl, H.out⟩
  case round =>
    rcases hrel with ⟨rfl, rfl, HS⟩ | ⟨rfl, rfl, HS⟩
    · go_wp2_with (first | (go_at_call 183 ; refine (insertion_any (a := 0) (b := 20) cap HS.out (Nat.zero_le _) h20 (by omega)).mono ?_; rintro e w2 ⟨rfl, hs⟩; rw [HD1.out] at hs; have HS2 := Lib.hid hs; clear hs))
      go_roundw
      case rel => exact .inr ⟨rfl, rfl, HS2.out⟩
      case measure => simp [intOf]
    · go_wp2_with (first | (go_at_call 183 ; rw [← hz1]; refine (insertion_any (a := 20) (b := d1.size) cap HS.out (by omega) (Nat.le_refl _) (by omega)).mono ?_; rintro e w2 ⟨rfl, hs⟩; rw [hz1, HD2.out] at hs; have HS2 := Lib.hid hs; clear hs))
      by_cases hn : d.size = 20
      · have z4 : ¬ (20 : Int) < (d.size : Int) := by omega
        go_loopw [6] (fun vs wr => vs = .int .i64 20 ∧ Hid (SS w0 q o d2 wr)) (fun _ _ => 0)
        case atStart => exact ⟨rfl, HS2.out⟩
        case round =>
          obtain ⟨rfl, HS3⟩ := hrel
          go_wp2
          go_end0
          exact ⟨rfl, d2, HS3.out, HT.out.1, by rw [hn]; exact HT.out.2.1⟩
      · have z4 : (20 : Int) < (d.size : Int) := by omega
        go_loopw [6] (fun vs wr => (vs = .int .i64 20 ∧ Hid (SS w0 q o d2 wr)) ∨ (vs = .int .i64 40 ∧ ∃ d3, Hid (Done w0 q o d d3 wr))) (fun vs _ => 40 - (intOf vs).toNat)
        case atStart => exact .inl ⟨rfl, HS2.out⟩
        case round =>
          rcases hrel with ⟨rfl, HS3⟩ | ⟨rfl, d3, HD⟩
          · go_wp2
            go_loopw [7, 8] (fun va vb wr => va = .int .i64 0 ∧ vb = .int .i64 40 ∧ Hid (SS w0 q o d2 wr)) (fun _ _ _ => 0)
            case atStart => exact ⟨rfl, rfl, HS3.out⟩
            case round =>
              obtain ⟨rfl, rfl, HS4⟩ := hrel
              go_wp2_with (first | (go_at_call 184 ; rw [← hz2]; refine (symMerge_any d2.size 0 20 d2.size d2 _ _ _ _ rfl rfl rfl HS4.out (by omega) (by omega) (Nat.le_refl _) (by omega) (by omega) HT.out.2.1 (by rw [hz2]; exact HT.out.2.2)).mono ?_; rintro e w5 ⟨rfl, d3, hs, hp, hx⟩; rw [hz2] at hp hx; have HS5 := Lib.hid hs; have HP5 := Lib.hid hp; have HX5 := Lib.hid hx; clear hs hp hx))
              go_roundw
              case rel => exact .inr ⟨rfl, d3, HS5.out, Sort.permIn_trans _ _ _ _ _ HT.out.1 HP5.out, HX5.out⟩
              case measure => simp [intOf]
          · go_wp2
            go_end0
            exact ⟨rfl, d3, HD.out⟩
set_option maxRecDepth 100000 in
set_option maxHeartbeats 2000000 in
theorem sortStable_any {w0 w : World} {q o : Nat} {d : Array El} (cap : Nat) (h : SS w0 q o d w) (hsz : d.size < 40) :
    Calls Try.prog 111 #[.slice (some ⟨q, o, none⟩) d.size cap, .func (.func 112) #[] #[]] w fun e w' => e = .returned (.tuple #[]) ∧ ∃ d', Done w0 q o d d' w' := by
  have H := Lib.hid (show Calls Try.prog 161 #[.slice (some ⟨q, o, none⟩) d.size cap, .int .i64 d.size, .func (.func 112) #[] #[]] w fun e w' => e = .returned (.tuple #[]) ∧ ∃ d', Done w0 q o d d' w' by
    by_cases h20 : d.size < 20
    · exact stable_small cap h h20
    · exact stable_large cap h (by omega) hsz)
  clear h
  go_enter Try.func111, Try.ntmps111
  go_wp2_with (first | (go_at_call 161 ; refine H.out.mono ?_; rintro e w2 ⟨rfl, d', hs⟩; have HS2 := Lib.hid hs; clear hs))
  go_end0
  exact ⟨rfl, d', HS2.out⟩
end Go.Proofs.Ytppejoccljfblaa
