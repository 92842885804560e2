/-
  The scanner's skip, walked: it passes over what is no token. No condition but sizes and how the scanner lies.
-/
import Derived.Test.YtppejoccljfblaaScanner
import Derived.Test.YtppejoccljfblaaFar
import Derived.ScopeJumps
import Derived.WalkMore
namespace Go.Proofs.Ytppejoccljfblaa
open Go.RowKit

theorem skipG_rem (r : List UInt8) (l c : Nat) : skipG true r l c = skipG false (r.dropWhile (· != 10)) l (c + (r.takeWhile (· != 10)).length) := by
  induction r generalizing c with
  | nil => rfl
  | cons x r ih =>
    by_cases h : x = 10
    · subst h; simp [skipG]
    · have h1 : (x != 10) = true := by simpa using h
      simp only [skipG, if_neg h]
      rw [List.dropWhile_cons_of_pos (p := (· != 10)) h1, List.takeWhile_cons_of_pos (p := (· != 10)) h1, ih]
      simp only [List.length_cons]
      congr 1; omega
theorem cls4 (c : UInt8) : (cls c.toNat == 4) = (c == 32) := by
  have : c = 32 ↔ (c.toNat : Int) = 32 := ⟨fun h => by subst h; rfl, fun h => UInt8.toNat_inj.1 (by show c.toNat = 32; omega)⟩
  rw [Bool.eq_iff_iff, beq_iff_eq, beq_iff_eq, this]
  unfold cls
  repeat' split
  all_goals omega
theorem cls5 (c : UInt8) : (cls c.toNat == 5) = (c == 10) := by
  have : c = 10 ↔ (c.toNat : Int) = 10 := ⟨fun h => by subst h; rfl, fun h => UInt8.toNat_inj.1 (by show c.toNat = 10; omega)⟩
  rw [Bool.eq_iff_iff, beq_iff_eq, beq_iff_eq, this]
  unfold cls
  repeat' split
  all_goals omega
theorem pre_two (x : UInt8) (r : List UInt8) : pre? [45, 45] (x :: r) = true ↔ x = 45 ∧ r.head? = some 45 := by
  cases r with
  | nil => simp [pre?, List.isPrefixOf]
  | cons y r => simp [pre?, List.isPrefixOf]; constructor <;> rintro ⟨rfl, rfl⟩ <;> exact ⟨rfl, rfl⟩
theorem Exit.jump_mono {l : Nat} {J J' : Act → World → Prop} {Q : Exit → Act → World → Prop} (h : ∀ a w, J a w → J' a w) : ∀ e a w, Exit.jump l J Q e a w → Exit.jump l J' Q e a w := by
  intro e a w hj
  cases e <;> first | exact hj | exact ⟨hj.1, h _ _ hj.2⟩

theorem ext_drop (s : ByteArray) (i : Nat) : (s.extract i s.size).data.toList = s.data.toList.drop i := by
  rw [ext_eq, List.take_of_length_le (by rw [List.length_drop, length_data]; exact Nat.le_refl _)]
theorem hasPrefix_at (s p : ByteArray) (i : Nat) (b : Bool) (w : World) (h : pre? p.data.toList (s.data.toList.drop i) = b) :
    Calls Try.prog 125 #[.string (s.extract i s.size), .string p] w fun e w' => e = .returned (.bool b) ∧ w = w' := by
  have := hasPrefix_any (s.extract i s.size) p w
  rw [ext_drop, h] at this; exact this
/-- How far the next newline is; -1: there is none. -/
def nlI (r : List UInt8) : Int := if r.any (· == 10) then ((r.takeWhile (· != 10)).length : Int) else -1
theorem indexByte_at (s : ByteArray) (i : Nat) (k : Int) (w : World) (h : nlI (s.data.toList.drop i) = k) :
    Calls Try.prog 126 #[.string (s.extract i s.size), .int .u8 10] w fun e w' => e = .returned (.int .i64 k) ∧ w = w' := by
  have := indexByte_any (s.extract i s.size) 10 w
  rw [ext_drop, show (10 : Int).toNat.toUInt8 = (10 : UInt8) from rfl, indexByte_take] at this
  rw [← h]; exact this
/-- A remark is passed over up to the newline, or the end. -/
theorem skipG_far {r : List UInt8} (l c : Nat) (h : pre? [45, 45] r = true) (k : Nat) (hk : k = (r.takeWhile (· != 10)).length) : skipG false r l c = skipG false (r.drop k) l (c + k) ∧ 2 ≤ k ∧ k ≤ r.length := by
  cases r with
  | nil => cases h
  | cons x r =>
    obtain ⟨rfl, h2⟩ := (pre_two x r).1 h
    cases r with
    | nil => cases h2
    | cons y r =>
      have hy : y = 45 := by simpa using h2
      subst hy
      have h3 : skipG false (45 :: 45 :: r) l c = skipG true (45 :: 45 :: r) l c := by simp [skipG]
      have h4 : ((45 :: 45 :: r).takeWhile (· != 10)).length = (r.takeWhile (· != 10)).length + 2 := by
        rw [List.takeWhile_cons_of_pos (by decide), List.takeWhile_cons_of_pos (by decide)]; rfl
      have h5 := (List.takeWhile_prefix (l := (45 : UInt8) :: 45 :: r) (· != 10)).length_le
      have h6 : (45 :: 45 :: r).drop k = (45 :: 45 :: r).dropWhile (· != 10) := by
        rw [hk]
        conv => lhs; arg 2; rw [← List.takeWhile_append_dropWhile (p := (· != 10)) (l := (45 : UInt8) :: 45 :: r)]
        rw [List.drop_left']; rfl
      rw [h3, skipG_rem, h6, hk]
      exact ⟨rfl, by omega, h5⟩
theorem tw_all (p : UInt8 → Bool) (l : List UInt8) (h : ∀ x ∈ l, p x = true) : l.takeWhile p = l := by
  have := List.takeWhile_append_of_pos (l₂ := []) h
  simpa using this
/-- A function that begins with a label, and jumps back to it alone. -/
theorem wp_scope_label {P : Program} {y : Code} {a : Act} {w : World} {Q : Exit → Act → World → Prop} (J : Act → World → Prop) (μ : Act → World → Nat)
    (key : ∀ a w, J a w → y.wp P (Exit.jump 0 (fun a' w' => J a' w' ∧ μ a' w' < μ a w) Q) a w) (h0 : J a w) (hf : findLabel ((Code.label 0).seq y) 0 = some (Code.skip.seq y)) : (Code.scope ((Code.label 0).seq y)).wp P Q a w :=
  wp_scope_jumps (rest := Code.skip.seq y) 0 J μ hf (wp_seq (wp_label (Code.wp_mono (Exit.jump_mono fun _ _ hh => hh.1) (key _ _ h0)))) (fun a1 w1 hJ => wp_seq (wp_skip (key a1 w1 hJ)))
/-- The scanner stands so; skipped on from here it stands there. -/
def SkSt (w0 : World) (q : Nat) (s : ByteArray) (out : Value) (R : List UInt8 × Nat × Nat) (w : World) (i l f : Nat) : Prop :=
  Sc w q s i l f out ∧ Far (fun k => k = q) w0 w ∧ i ≤ s.size ∧ f ≤ i ∧ l ≤ i + 1 ∧ skipG false (s.data.toList.drop i) l (i - f + 1) = R
def skM (q n : Nat) (w : World) : Nat := match w.cell? ⟨q, 1, none⟩ with | some (.int _ i) => n - i.toNat | _ => 0
theorem skM_eq {q n i : Nat} {w : World} {s : ByteArray} {l f : Int} {out : Value} (h : Sc w q s i l f out) : skM q n w = n - i := by
  rw [skM, h.c5.2.1]; simp

theorem frame_any (n : Nat) (p : Value) (a : Act) (h : a.tmps.size = n + 1) (h0 : a.tmps[0]? = some p) (hd : a.defers = []) : ∃ u : Nat → Value, a = { tmps := (p :: (List.range n).map fun k => u (k + 1)).toArray, defers := [] } := by
  obtain ⟨ts, ds⟩ := a
  refine ⟨fun k => ts.getD k undef, ?_⟩
  simp only at h h0 hd
  subst hd
  congr 1
  apply Array.ext'
  refine List.ext_getElem (by simp; omega) fun i h1 h2 => ?_
  cases i with
  | zero =>
    have : ts[0]? = some (ts[0]'(by omega)) := Array.getElem?_eq_getElem _
    rw [this] at h0
    simpa using h0
  | succ i =>
    have hi : i + 1 < ts.size := by simpa using h1
    simp [Array.getD, hi]
theorem frame98 (q : Nat) (a : Act) (h : a.tmps.size = 98) (h0 : a.tmps[0]? = some (.pointer (some ⟨q, 0, none⟩))) (hd : a.defers = []) : ∃ u : Nat → Value, a = { tmps := #[.pointer (some ⟨q, 0, none⟩), u 1, u 2, u 3, u 4, u 5, u 6, u 7, u 8, u 9, u 10, u 11, u 12, u 13, u 14, u 15, u 16, u 17, u 18, u 19, u 20, u 21, u 22, u 23, u 24, u 25, u 26, u 27, u 28, u 29, u 30, u 31, u 32, u 33, u 34, u 35, u 36, u 37, u 38, u 39, u 40, u 41, u 42, u 43, u 44, u 45, u 46, u 47, u 48, u 49, u 50, u 51, u 52, u 53, u 54, u 55, u 56, u 57, u 58, u 59, u 60, u 61, u 62, u 63, u 64, u 65, u 66, u 67, u 68, u 69, u 70, u 71, u 72, u 73, u 74, u 75, u 76, u 77, u 78, u 79, u 80, u 81, u 82, u 83, u 84, u 85, u 86, u 87, u 88, u 89, u 90, u 91, u 92, u 93, u 94, u 95, u 96, u 97], defers := [] } := frame_any 97 _ a h h0 hd
theorem Sc.setI {w : World} {q : Nat} {s : ByteArray} {i l f : Int} {out : Value} (h : Sc w q s i l f out) (n : Nat) (j : Int) : Sc ((w.drewN n).setCell ⟨q, 1, none⟩ (.int .i64 j)) q s j l f out := Bo.set (w := w.drewN n) h 1 (.int .i64 j)
theorem Sc.setL {w : World} {q : Nat} {s : ByteArray} {i l f : Int} {out : Value} (h : Sc w q s i l f out) (n : Nat) (j : Int) : Sc ((w.drewN n).setCell ⟨q, 2, none⟩ (.int .i64 j)) q s i j f out := Bo.set (w := w.drewN n) h 2 (.int .i64 j)
theorem Sc.setF {w : World} {q : Nat} {s : ByteArray} {i l f : Int} {out : Value} (h : Sc w q s i l f out) (n : Nat) (j : Int) : Sc ((w.drewN n).setCell ⟨q, 3, none⟩ (.int .i64 j)) q s i l j out := Bo.set (w := w.drewN n) h 3 (.int .i64 j)
/-- A jump back to the label. -/
theorem sk_jump {w0 w1 w2 : World} {q : Nat} {s : ByteArray} {out : Value} {R : List UInt8 × Nat × Nat} {i l f i2 l2 f2 : Nat} (h : Sc w1 q s i l f out) (hi : i < i2) (h2 : SkSt w0 q s out R w2 i2 l2 f2) :
    (∃ i l f : Nat, SkSt w0 q s out R w2 i l f) ∧ skM q s.size w2 < skM q s.size w1 :=
  ⟨⟨i2, l2, f2, h2⟩, by rw [skM_eq h, skM_eq h2.1]; have := h2.2.2.1; omega⟩

set_option maxRecDepth 100000 in
set_option maxHeartbeats 2000000 in
theorem skip_any {w : World} {q : Nat} {s : ByteArray} {out : Value} {R : List UInt8 × Nat × Nat} (i l f : Nat) (h : SkSt w q s out R w i l f) (hs : s.size ≤ 1000000) :
    Calls Try.prog 74 #[.pointer (some ⟨q, 0, none⟩)] w fun e w' => e = .returned (.tuple #[]) ∧ ∃ i' l' f' : Nat, Sc w' q s i' l' f' out ∧ Far (fun k => k = q) w w' ∧ i' ≤ s.size ∧ f' ≤ i' ∧ l' ≤ i' + 1 ∧ R = (s.data.toList.drop i', l', i' - f' + 1) := by
  go_enter Try.func74, Try.ntmps74
  go_wp2
  refine wp_scope_label (fun a' w' => a'.tmps.size = 98 ∧ a'.tmps[0]? = some (.pointer (some ⟨q, 0, none⟩)) ∧ a'.defers = [] ∧ ∃ (i l f : Nat), SkSt w q s out R w' i l f) (fun _ w' => skM q s.size w') ?pass ⟨rfl, rfl, rfl, i, l, f, h⟩ rfl
  case pass =>
    rintro a' w' ⟨h98, hp0, hd0, i, l, f, hSc, hFar, hi, hfi, hli, hR⟩
    obtain ⟨u, rfl⟩ := frame98 q a' h98 hp0 hd0
    clear h98 hp0 hd0
    obtain ⟨c0, c1, c2, c3, c4⟩ := hSc.c5
    have HS := Lib.hid hSc
    have HF := Lib.hid hFar
    have HR := Lib.hid hR
    have HM := Lib.hid (skM_eq (n := s.size) hSc)
    clear h hSc hFar hR
    by_cases hlt : i < s.size
    · have e0 : ((i : Int) == (s.size : Int)) = false := by rw [beq_eq_false_iff_ne]; omega
      have hd : s.data.toList.drop i = s[i] :: s.data.toList.drop (i + 1) := by
        rw [List.drop_eq_getElem_cons (by rw [length_data]; exact hlt)]; rfl
      have HC : Hid (((cls s[i].toNat) == 4) = (s[i] == 32) ∧ ((cls s[i].toNat) == 5) = (s[i] == 10)) := Lib.hid ⟨cls4 _, cls5 _⟩
      by_cases h32 : s[i] = 32
      · have e1 : ((cls s[i].toNat) == 4) = true := by rw [HC.out.1, beq_iff_eq]; exact h32
        have HN : Hid (skipG false (s.data.toList.drop (i + 1)) l (i + 1 - f + 1) = R) := Lib.hid (by
          have := HR.out
          rw [hd, h32] at this
          rw [← this, show i + 1 - f + 1 = i - f + 1 + 1 by omega]; simp [skipG])
        have f1 := HS.out.frozen 1
        clear h32
        go_wp2
        go_quiet (fail)
        go_wp2
        go_quiet ((go_at_call 124 ; refine (class_any _ _).mono ?_; rintro e w'' ⟨rfl, rfl⟩; exact ⟨rfl, _, rfl⟩))
        go_wp2
        go_step3
        refine (fun (h : (∃ i l f : Nat, SkSt w q s out R _ i l f) ∧ skM q s.size _ < skM q s.size w') => ⟨rfl, ⟨rfl, rfl, rfl, h.1⟩, h.2⟩) ?_
        exact sk_jump HS.out (Nat.lt_succ_self i) ⟨HS.out.setI _ ((i + 1 : Nat) : Int), (HF.out.drewN _).setCell rfl _, by omega, by omega, by omega, HN.out⟩
      · have e1 : ((cls s[i].toNat) == 4) = false := by rw [HC.out.1, beq_eq_false_iff_ne]; exact h32
        by_cases h10 : s[i] = 10
        · have e2 : ((cls s[i].toNat) == 5) = true := by rw [HC.out.2, beq_iff_eq]; exact h10
          have HN : Hid (skipG false (s.data.toList.drop (i + 1)) (l + 1) (i + 1 - (i + 1) + 1) = R) := Lib.hid (by
            have := HR.out
            rw [hd, h10] at this
            rw [← this, Nat.sub_self]; simp [skipG])
          have f1 := HS.out.frozen 1
          have f2 := HS.out.frozen 2
          have f3 := HS.out.frozen 3
          clear h32 h10
          go_wp2
          go_quiet (fail)
          go_wp2
          go_quiet ((go_at_call 124 ; refine (class_any _ _).mono ?_; rintro e w'' ⟨rfl, rfl⟩; exact ⟨rfl, _, rfl⟩))
          go_wp2
          go_region
          all_goals go_wp2
          all_goals go_step3
          refine (fun (h : (∃ i l f : Nat, SkSt w q s out R _ i l f) ∧ skM q s.size _ < skM q s.size w') => ⟨rfl, ⟨rfl, rfl, rfl, h.1⟩, h.2⟩) ?_
          exact sk_jump HS.out (Nat.lt_succ_self i) (f2 := i + 1) (l2 := l + 1) ⟨((HS.out.setI _ ((i + 1 : Nat) : Int)).setL 0 ((l + 1 : Nat) : Int)).setF 0 ((i + 1 : Nat) : Int), ((((HF.out.drewN _).setCell rfl _).setCell rfl _).setCell rfl _).drewN 1, by omega, by omega, by omega, HN.out⟩
        · have e2 : ((cls s[i].toNat) == 5) = false := by rw [HC.out.2, beq_eq_false_iff_ne]; exact h10
          have f1 := HS.out.frozen 1
          by_cases hpre : pre? [45, 45] (s.data.toList.drop i) = true
          · have HP := Lib.hid hpre
            have hlen : (s.data.toList.drop i).length = s.size - i := by rw [List.length_drop, length_data]
            obtain ⟨k, hk⟩ : ∃ k, k = ((s.data.toList.drop i).takeWhile (· != 10)).length := ⟨_, rfl⟩
            obtain ⟨g1, g2, g3⟩ := skipG_far l (i - f + 1) hpre k hk
            rw [List.drop_drop, HR.out] at g1
            rw [hlen] at g3
            by_cases hany : (s.data.toList.drop i).any (· == 10) = true
            · have HK : Hid (nlI (s.data.toList.drop i) = (k : Int)) := Lib.hid (by rw [nlI, if_pos hany, hk])
              have HN : Hid (skipG false (s.data.toList.drop (i + k)) l (i + k - f + 1) = R) := Lib.hid (by rw [g1, show i + k - f + 1 = i - f + 1 + k by omega])
              clear h32 h10 hpre hk g1 hany hlen
              go_wp2
              go_quiet (fail)
              go_wp2
              go_quiet ((go_at_call 124 ; refine (class_any _ _).mono ?_; rintro e w'' ⟨rfl, rfl⟩; exact ⟨rfl, _, rfl⟩))
              go_wp2
              go_quiet ((go_at_call 125 ; refine (hasPrefix_at s ⟨#[45, 45]⟩ i true _ HP.out).mono ?_; rintro e w'' ⟨rfl, rfl⟩; exact ⟨rfl, _, rfl⟩))
              go_wp2
              go_quiet ((go_at_call 126 ; refine (indexByte_at s i _ _ HK.out).mono ?_; rintro e w'' ⟨rfl, rfl⟩; exact ⟨rfl, _, rfl⟩))
              go_wp2
              go_step3
              refine (fun (h : (∃ i l f : Nat, SkSt w q s out R _ i l f) ∧ skM q s.size _ < skM q s.size w') => ⟨rfl, ⟨rfl, rfl, rfl, h.1⟩, h.2⟩) ?_
              exact sk_jump HS.out (show i < i + k by omega) (f2 := f) (l2 := l) ⟨HS.out.setI _ ((i + k : Nat) : Int), (HF.out.drewN _).setCell rfl _, by omega, by omega, by omega, HN.out⟩
            · have hke : k = s.size - i := by
                rw [hk, ← hlen]
                congr 1
                refine tw_all _ _ (fun x hx => ?_)
                rw [bne_iff_ne]
                rintro rfl
                exact hany (List.any_eq_true.2 ⟨_, hx, beq_self_eq_true _⟩)
              have HK : Hid (nlI (s.data.toList.drop i) = -1) := Lib.hid (by rw [nlI, if_neg hany])
              have HN : Hid (skipG false (s.data.toList.drop s.size) l (s.size - f + 1) = R) := Lib.hid (by rw [g1, show i - f + 1 + k = s.size - f + 1 by omega, show i + k = s.size by omega])
              clear h32 h10 hpre hk g1 hany hlen hke
              go_wp2
              go_quiet (fail)
              go_wp2
              go_quiet ((go_at_call 124 ; refine (class_any _ _).mono ?_; rintro e w'' ⟨rfl, rfl⟩; exact ⟨rfl, _, rfl⟩))
              go_wp2
              go_quiet ((go_at_call 125 ; refine (hasPrefix_at s ⟨#[45, 45]⟩ i true _ HP.out).mono ?_; rintro e w'' ⟨rfl, rfl⟩; exact ⟨rfl, _, rfl⟩))
              go_wp2
              go_quiet ((go_at_call 126 ; refine (indexByte_at s i _ _ HK.out).mono ?_; rintro e w'' ⟨rfl, rfl⟩; exact ⟨rfl, _, rfl⟩))
              go_wp2
              go_step3
              refine (fun (h : (∃ i l f : Nat, SkSt w q s out R _ i l f) ∧ skM q s.size _ < skM q s.size w') => ⟨rfl, ⟨rfl, rfl, rfl, h.1⟩, h.2⟩) ?_
              exact sk_jump HS.out hlt (f2 := f) (l2 := l) ⟨HS.out.setI _ ((s.size : Nat) : Int), (HF.out.drewN _).setCell rfl _, by omega, by omega, by omega, HN.out⟩
          · have HP : Hid (pre? [45, 45] (s.data.toList.drop i) = false) := Lib.hid (by simpa using hpre)
            have HE : Hid (R = (s.data.toList.drop i, l, i - f + 1)) := Lib.hid (by
              rw [← HR.out, hd]
              refine skipG_here _ _ h10 h32 (fun hh => hpre ?_)
              rw [hd]; exact (pre_two _ _).2 hh)
            clear h32 h10 hpre
            go_wp2
            go_quiet (fail)
            go_wp2
            go_quiet ((go_at_call 124 ; refine (class_any _ _).mono ?_; rintro e w'' ⟨rfl, rfl⟩; exact ⟨rfl, _, rfl⟩))
            go_wp2
            go_quiet ((go_at_call 125 ; refine (hasPrefix_at s ⟨#[45, 45]⟩ i false _ HP.out).mono ?_; rintro e w'' ⟨rfl, rfl⟩; exact ⟨rfl, _, rfl⟩))
            go_wp2
            simp only [Exit.jump]
            go_end0
            first | exact ⟨rfl, i, l, f, HS.out, HF.out.drewN _, hi, hfi, hli, HE.out⟩ | exact ⟨rfl, i, l, f, HS.out, (HF.out.drewN _).drewN _, hi, hfi, hli, HE.out⟩
    · have e0 : ((i : Int) == (s.size : Int)) = true := by rw [beq_iff_eq]; omega
      have HE : Hid (R = (s.data.toList.drop i, l, i - f + 1)) := Lib.hid (by
        rw [← HR.out, List.drop_eq_nil_of_le (by rw [length_data]; omega)]; rfl)
      go_wp2
      go_quiet (fail)
      go_wp2
      simp only [Exit.jump]
      refine bodyPost_ret (results_none rfl _ _ _) rfl ?_
      exact ⟨rfl, i, l, f, HS.out, HF.out.drewN nq, hi, hfi, hli, HE.out⟩
end Go.Proofs.Ytppejoccljfblaa
