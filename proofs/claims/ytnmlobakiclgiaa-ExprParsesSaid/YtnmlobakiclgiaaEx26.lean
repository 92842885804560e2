/-
  The document's token, walked. No condition but sizes.
-/
import Derived.Test.YtnmlobakiclgiaaEx7
namespace Go.Proofs.Ytnmlobakiclgiaa
open Go.RowKit
attribute [local go_sem ↓] store_flt store_tok
attribute [local go_sem] stOk_flt stOk_tok stB_eq stC_eq wr_drew wr_alloc wr_row wr_drewN
def tokZ (r : List UInt8) : Int × ByteArray × Int := match tokL r with | some (k, t, n) => (k, str t, n) | none => (0, str [], 0)
theorem tokZ_word (x : UInt8) (r : List UInt8) (h : cls x.toNat = 1 ∨ cls x.toNat = 2) : tokZ (x :: r) =
    if isKey (str ((x :: r).takeWhile partB)) then (5, str ((x :: r).takeWhile partB), 0) else if isWord (str ((x :: r).takeWhile partB)) 1 then (2, str ((x :: r).takeWhile partB), 0) else if isWord (str ((x :: r).takeWhile partB)) 2 then (3, str ((x :: r).takeWhile partB), 0) else (0, str [], 0) := by
  unfold tokZ tokL
  simp only [if_pos h]
  repeat' split
  all_goals simp_all
theorem tokZ_dig (x : UInt8) (r : List UInt8) (h : ¬ (cls x.toNat = 1 ∨ cls x.toNat = 2)) (h3 : cls x.toNat = 3) : tokZ (x :: r) = if okN ((x :: r).takeWhile isDig) then (4, str ((x :: r).takeWhile isDig), numN ((x :: r).takeWhile isDig)) else (0, str [], 0) := by
  unfold tokZ tokL
  simp only [if_neg h, if_pos h3]
  by_cases h4 : okN ((x :: r).takeWhile isDig) = true
  · simp only [if_pos h4]
  · simp only [if_neg h4]
theorem tokZ_sym (x : UInt8) (r : List UInt8) (h : ¬ (cls x.toNat = 1 ∨ cls x.toNat = 2)) (h3 : cls x.toNat ≠ 3) : tokZ (x :: r) = match symbols.find? (fun y => pre? y.data.toList (x :: r)) with | some y => (6, y, 0) | none => (0, str [], 0) := by
  unfold tokZ tokL
  simp only [if_neg h, if_neg h3]
  cases symbols.find? (fun y => pre? y.data.toList (x :: r)) with
  | none => rfl
  | some y => show (6, str y.data.toList, 0) = (6, y, 0); rw [show str y.data.toList = y from str_eta y]
theorem part_le (c : UInt8) : partB c = ((decide (1 ≤ cls c.toNat) && decide (cls c.toNat ≤ 3)) || ((c.toNat : Int) == 95)) := by
  simp only [partB, part]
  rw [Bool.or_comm]
theorem dig_cls (c : UInt8) : isDig c = (cls c.toNat == 3) := by
  rw [← inC_dig, inC]
  simp only [Bool.false_and, Bool.not_false, Bool.and_true]
  rw [Bool.eq_iff_iff]
  simp only [Bool.not_eq_true', Bool.or_eq_false_iff, decide_eq_false_iff_not, beq_iff_eq]
  omega
set_option maxRecDepth 100000 in
set_option maxHeartbeats 8000000 in
theorem rtoken_any (s : ByteArray) (i : Nat) (w : World) (hi : i < s.size) (hs : s.size ≤ 1000000) {k n : Int} {t : ByteArray} (hv : tokZ (s.data.toList.drop i) = (k, t, n)) :
    Calls Try.prog 41 #[.string s, .int .i64 i] w fun e w' => e = .returned (.agg #[.int .i64 k, .string t, .int .i64 n, .int .i64 0, .int .i64 0]) ∧ Below w.heap.size w w' := by
  have hd : s.data.toList.drop i = s[i] :: s.data.toList.drop (i + 1) := by
    rw [List.drop_eq_getElem_cons (by rw [length_data]; exact hi)]; rfl
  have HR := Lib.hid (Bo.new w 43 #[.int .i64 0, .string ⟨#[]⟩, .int .i64 0, .int .i64 0, .int .i64 0])
  have HB : Hid (Below w.heap.size w (w.alloc (.cells #[.int .i64 0, .string ⟨#[]⟩, .int .i64 0, .int .i64 0, .int .i64 0] 43))) := Lib.hid (below_new w _)
  have HD := Lib.hid hd
  have HV := Lib.hid hv
  clear hd hv
  by_cases h12 : cls s[i].toNat = 1 ∨ cls s[i].toNat = 2
  · have HW := Lib.hid (tokZ_word s[i] (s.data.toList.drop (i + 1)) h12)
    rw [← HD.out, HV.out] at HW
    have e12 : ((cls s[i].toNat == 1) = true) ∨ ((cls s[i].toNat == 1) = false ∧ (cls s[i].toNat == 2) = true) := by
      rcases h12 with h | h
      · exact .inl (by rw [h]; rfl)
      · exact .inr ⟨by rw [h]; rfl, by rw [h]; rfl⟩
    clear h12
    rcases e12 with e1 | ⟨e1, e2⟩
    all_goals
      go_enter Try.func41, Try.ntmps41
      go_wp2_with (go_at_call 60 ; refine (rclass_any _ _).mono ?_; rintro e w' ⟨rfl, rfl⟩)
      go_loop [6] (fun n => ∃ m : Nat, i ≤ m ∧ m ≤ s.size ∧ n = .int .i64 m ∧ Hid (∀ j (hj : j < s.data.toList.length), i ≤ j → j < m → partB s.data.toList[j] = true)) (fun n => s.size - (intOf n).toNat)
      case atStart => exact ⟨i, Nat.le_refl _, Nat.le_of_lt hi, rfl, fun j _ h1 h2 => by omega⟩
      case round =>
        obtain ⟨m, him, hm, rfl, HN⟩ := hrel
        by_cases hgo : ∃ h : m < s.size, partB s[m] = true
        · obtain ⟨hlt, hp⟩ := hgo
          have HX : Hid (∀ j (hj : j < s.data.toList.length), i ≤ j → j < m + 1 → partB s.data.toList[j] = true) := Lib.hid (fun j hj h2 h3 => by
            rcases Nat.lt_or_ge j m with h4 | h4
            · exact HN.out j hj h2 h4
            · obtain rfl : j = m := by omega
              exact hp)
          obtain ⟨b1, e3⟩ : ∃ b, decide (1 ≤ cls s[m].toNat) = b := ⟨_, rfl⟩
          obtain ⟨b2, e4⟩ : ∃ b, decide (cls s[m].toNat ≤ 3) = b := ⟨_, rfl⟩
          obtain ⟨b3, e5⟩ : ∃ b, ((s[m].toNat : Int) == 95) = b := ⟨_, rfl⟩
          rw [part_le, e3, e4, e5] at hp
          have HP := Lib.hid hp
          clear hp
          cases b1 <;> cases b2 <;> cases b3
          all_goals first
            | (exact absurd HP.out (by decide))
            | (go_wp2_with (go_at_call 60 ; refine (rclass_any _ _).mono ?_; rintro e w' ⟨rfl, rfl⟩)
               go_round
               case rel => exact ⟨m + 1, by omega, by omega, by go_num, HX.out⟩
               case measure => simp [intOf]; omega)
        · have HY : Hid (s.extract i m = str ((s.data.toList.drop i).takeWhile partB)) := Lib.hid (ext_tw partB s i m him HN.out hm (fun hk => by
            rw [length_data] at hk
            exact Bool.eq_false_iff.2 fun h => hgo ⟨hk, h⟩))
          rw [← HY.out] at HW
          have hwl : (s.extract i m).size ≤ maxLen := by
            have := (List.takeWhile_prefix (l := s.data.toList.drop i) partB).length_le
            rw [List.length_drop, length_data] at this
            rw [HY.out, str_size]; unfold maxLen; omega
          have HWL := Lib.hid hwl
          clear hwl
          have key : ∀ W, Below w.heap.size w W → True := fun _ _ => trivial
          obtain ⟨q1, hq1⟩ : ∃ b, isKey (s.extract i m) = b := ⟨_, rfl⟩
          obtain ⟨q2, hq2⟩ : ∃ b, isWord (s.extract i m) 1 = b := ⟨_, rfl⟩
          obtain ⟨q3, hq3⟩ : ∃ b, isWord (s.extract i m) 2 = b := ⟨_, rfl⟩
          rw [hq1, hq2, hq3] at HW
          have HK := Lib.hid (fun W => rkey_any (s.extract i m) W)
          have HWD := Lib.hid (fun f W => rword_any (s.extract i m) f W HWL.out)
          rw [hq1] at HK
          clear hq1 key
          have hstop : (∃ h : m < s.size, decide (1 ≤ cls (s[m]'h).toNat) = false ∧ (((s[m]'h).toNat : Int) == 95) = false) ∨ (∃ h : m < s.size, decide (cls (s[m]'h).toNat ≤ 3) = false ∧ (((s[m]'h).toNat : Int) == 95) = false) ∨ ¬ m < s.size := by
            by_cases hlt : m < s.size
            · have hp : partB s[m] = false := Bool.eq_false_iff.2 fun h => hgo ⟨hlt, h⟩
              rw [part_le, Bool.or_eq_false_iff, Bool.and_eq_false_iff] at hp
              rcases hp with ⟨hp | hp, h5⟩
              · exact .inl ⟨hlt, hp, h5⟩
              · exact .inr (.inl ⟨hlt, hp, h5⟩)
            · exact .inr (.inr hlt)
          clear hgo
          have hw : (q1 = true ∧ k = 5 ∧ t = s.extract i m ∧ n = 0) ∨ (q1 = false ∧ q2 = true ∧ k = 2 ∧ t = s.extract i m ∧ n = 0) ∨ (q1 = false ∧ q2 = false ∧ q3 = true ∧ k = 3 ∧ t = s.extract i m ∧ n = 0) ∨ (q1 = false ∧ q2 = false ∧ q3 = false ∧ k = 0 ∧ t = ⟨#[]⟩ ∧ n = 0) := by
            have h := HW.out
            cases q1 <;> cases q2 <;> cases q3 <;> simp only [if_true, if_false, Bool.false_eq_true, Prod.mk.injEq] at h <;> simp [h, str]
          clear HW
          rcases hw with ⟨rfl, rfl, rfl, rfl⟩ | ⟨rfl, rfl, rfl, rfl, rfl⟩ | ⟨rfl, rfl, rfl, rfl, rfl, rfl⟩ | ⟨rfl, rfl, rfl, rfl, rfl, rfl⟩
          · rcases hstop with ⟨hlt, hz, hz2⟩ | ⟨hlt, hz, hz2⟩ | hlt
            all_goals
              go_wp2_with (first
            | (go_at_call 60 ; refine (rclass_any _ _).mono ?_; rintro e w' ⟨rfl, rfl⟩)
            | (go_at_call 61 ; refine (HK.out _).mono ?_; rintro e w2 ⟨rfl, hb⟩; have HR2 := Lib.hid (HR.out.keep hb); have y2 : Wr w2 w.heap.size 43 5 := HR2.out.wr; have HB2 : Hid (Below w.heap.size w w2) := Lib.hid (HB.out.trans (hb.mono HB.out.size)); clear hb)
            | (go_at_call 62 ; refine (HWD.out _ _).mono ?_; rintro e w' ⟨rfl, rfl⟩))
              all_goals have HE := Lib.hid (HR2.out.row #[.int .i64 5, .string (s.extract i m), .int .i64 0, .int .i64 0, .int .i64 0]).t5
              all_goals exact bodyPost_ret (v := .agg #[.int .i64 5, .string (s.extract i m), .int .i64 0, .int .i64 0, .int .i64 0]) (by simp [results, Try.results41, go_sem, HE.out]) rfl ⟨rfl, below_setRow HB2.out (Nat.le_refl _) _⟩
          · rcases hstop with ⟨hlt, hz, hz2⟩ | ⟨hlt, hz, hz2⟩ | hlt
            all_goals
              go_wp2_with (first
            | (go_at_call 60 ; refine (rclass_any _ _).mono ?_; rintro e w' ⟨rfl, rfl⟩)
            | (go_at_call 61 ; refine (HK.out _).mono ?_; rintro e w2 ⟨rfl, hb⟩; have HR2 := Lib.hid (HR.out.keep hb); have y2 : Wr w2 w.heap.size 43 5 := HR2.out.wr; have HB2 : Hid (Below w.heap.size w w2) := Lib.hid (HB.out.trans (hb.mono HB.out.size)); clear hb)
            | (go_at_call 62 ; refine (HWD.out _ _).mono ?_; rintro e w' ⟨rfl, rfl⟩))
              all_goals have HE := Lib.hid (HR2.out.row #[.int .i64 2, .string (s.extract i m), .int .i64 0, .int .i64 0, .int .i64 0]).t5
              all_goals exact bodyPost_ret (v := .agg #[.int .i64 2, .string (s.extract i m), .int .i64 0, .int .i64 0, .int .i64 0]) (by simp [results, Try.results41, go_sem, HE.out]) rfl ⟨rfl, below_setRow HB2.out (Nat.le_refl _) _⟩
          · rcases hstop with ⟨hlt, hz, hz2⟩ | ⟨hlt, hz, hz2⟩ | hlt
            all_goals
              go_wp2_with (first
            | (go_at_call 60 ; refine (rclass_any _ _).mono ?_; rintro e w' ⟨rfl, rfl⟩)
            | (go_at_call 61 ; refine (HK.out _).mono ?_; rintro e w2 ⟨rfl, hb⟩; have HR2 := Lib.hid (HR.out.keep hb); have y2 : Wr w2 w.heap.size 43 5 := HR2.out.wr; have HB2 : Hid (Below w.heap.size w w2) := Lib.hid (HB.out.trans (hb.mono HB.out.size)); clear hb)
            | (go_at_call 62 ; refine (HWD.out _ _).mono ?_; rintro e w' ⟨rfl, rfl⟩))
              all_goals have HE := Lib.hid (HR2.out.row #[.int .i64 3, .string (s.extract i m), .int .i64 0, .int .i64 0, .int .i64 0]).t5
              all_goals exact bodyPost_ret (v := .agg #[.int .i64 3, .string (s.extract i m), .int .i64 0, .int .i64 0, .int .i64 0]) (by simp [results, Try.results41, go_sem, HE.out]) rfl ⟨rfl, below_setRow HB2.out (Nat.le_refl _) _⟩
          · rcases hstop with ⟨hlt, hz, hz2⟩ | ⟨hlt, hz, hz2⟩ | hlt
            all_goals
              go_wp2_with (first
            | (go_at_call 60 ; refine (rclass_any _ _).mono ?_; rintro e w' ⟨rfl, rfl⟩)
            | (go_at_call 61 ; refine (HK.out _).mono ?_; rintro e w2 ⟨rfl, hb⟩; have HR2 := Lib.hid (HR.out.keep hb); have y2 : Wr w2 w.heap.size 43 5 := HR2.out.wr; have HB2 : Hid (Below w.heap.size w w2) := Lib.hid (HB.out.trans (hb.mono HB.out.size)); clear hb)
            | (go_at_call 62 ; refine (HWD.out _ _).mono ?_; rintro e w' ⟨rfl, rfl⟩))
              all_goals have HE := Lib.hid (HR2.out.row #[.int .i64 0, .string ⟨#[]⟩, .int .i64 0, .int .i64 0, .int .i64 0]).t5
              all_goals exact bodyPost_ret (v := .agg #[.int .i64 0, .string ⟨#[]⟩, .int .i64 0, .int .i64 0, .int .i64 0]) (by simp [results, Try.results41, go_sem, HE.out]) rfl ⟨rfl, below_setRow HB2.out (Nat.le_refl _) _⟩
  · have e1 : (cls s[i].toNat == 1) = false := by rw [beq_eq_false_iff_ne]; exact fun h => h12 (.inl h)
    have e2 : (cls s[i].toNat == 2) = false := by rw [beq_eq_false_iff_ne]; exact fun h => h12 (.inr h)
    by_cases h3 : cls s[i].toNat = 3
    · have HW := Lib.hid (tokZ_dig s[i] (s.data.toList.drop (i + 1)) h12 h3)
      rw [← HD.out, HV.out] at HW
      have e3 : (cls s[i].toNat == 3) = true := by rw [h3]; rfl
      clear h12 h3
      go_enter Try.func41, Try.ntmps41
      go_wp2_with (go_at_call 60 ; refine (rclass_any _ _).mono ?_; rintro e w' ⟨rfl, rfl⟩)
      go_loop [6] (fun n => ∃ m : Nat, i ≤ m ∧ m ≤ s.size ∧ n = .int .i64 m ∧ Hid (∀ j (hj : j < s.data.toList.length), i ≤ j → j < m → isDig s.data.toList[j] = true)) (fun n => s.size - (intOf n).toNat)
      case atStart => exact ⟨i, Nat.le_refl _, Nat.le_of_lt hi, rfl, fun j _ h1 h2 => by omega⟩
      case round =>
        obtain ⟨m, him, hm, rfl, HN⟩ := hrel
        by_cases hgo : ∃ h : m < s.size, isDig s[m] = true
        · obtain ⟨hlt, hp⟩ := hgo
          have HX : Hid (∀ j (hj : j < s.data.toList.length), i ≤ j → j < m + 1 → isDig s.data.toList[j] = true) := Lib.hid (fun j hj h2 h3 => by
            rcases Nat.lt_or_ge j m with h4 | h4
            · exact HN.out j hj h2 h4
            · obtain rfl : j = m := by omega
              exact hp)
          rw [dig_cls] at hp
          go_wp2_with (go_at_call 60 ; refine (rclass_any _ _).mono ?_; rintro e w' ⟨rfl, rfl⟩)
          go_round
          case rel => exact ⟨m + 1, by omega, by omega, by go_num, HX.out⟩
          case measure => simp [intOf]; omega
        · have HY : Hid (s.extract i m = str ((s.data.toList.drop i).takeWhile isDig)) := Lib.hid (ext_tw isDig s i m him HN.out hm (fun hk => by
            rw [length_data] at hk
            exact Bool.eq_false_iff.2 fun h => hgo ⟨hk, h⟩))
          have hyl : (s.data.toList.drop i).takeWhile isDig = (s.extract i m).data.toList := by rw [HY.out, str_data]
          rw [← HY.out, hyl] at HW
          have hwl : (s.extract i m).size ≤ maxLen := by
            have := (List.takeWhile_prefix (l := s.data.toList.drop i) isDig).length_le
            rw [List.length_drop, length_data] at this
            rw [HY.out, str_size]; unfold maxLen; omega
          have HNB := Lib.hid (fun W => rnumber_any (s.extract i m) W hwl)
          obtain ⟨q1, hq1⟩ : ∃ b, okN (s.extract i m).data.toList = b := ⟨_, rfl⟩
          obtain ⟨v, hv⟩ : ∃ b, numN (s.extract i m).data.toList = b := ⟨_, rfl⟩
          rw [hq1, hv] at HW HNB
          have hstop : (∃ h : m < s.size, (cls (s[m]'h).toNat == 3) = false) ∨ ¬ m < s.size := by
            by_cases hlt : m < s.size
            · have hp : isDig s[m] = false := Bool.eq_false_iff.2 fun h => hgo ⟨hlt, h⟩
              rw [dig_cls] at hp
              exact .inl ⟨hlt, hp⟩
            · exact .inr hlt
          have hw : (q1 = true ∧ k = 4 ∧ t = s.extract i m ∧ n = v) ∨ (q1 = false ∧ k = 0 ∧ t = ⟨#[]⟩ ∧ n = 0) := by
            have h := HW.out
            cases q1 <;> simp only [if_true, if_false, Bool.false_eq_true, Prod.mk.injEq] at h <;> simp [h, str]
          clear HW hgo hq1 hv hyl hwl
          rcases hw with ⟨rfl, rfl, rfl, rfl⟩ | ⟨rfl, rfl, rfl, rfl⟩
          · rcases hstop with ⟨hlt, hz⟩ | hlt
            all_goals
              go_wp2_with (first
                | (go_at_call 60 ; refine (rclass_any _ _).mono ?_; rintro e w' ⟨rfl, rfl⟩)
                | (go_at_call 63 ; refine (HNB.out _).mono ?_; rintro e w2 ⟨rfl, hb⟩; have HR2 := Lib.hid (HR.out.keep hb); have y2 : Wr w2 w.heap.size 43 5 := HR2.out.wr; have HB2 : Hid (Below w.heap.size w w2) := Lib.hid (HB.out.trans (hb.mono HB.out.size)); clear hb))
              have HE := Lib.hid (HR2.out.row #[.int .i64 4, .string (s.extract i m), .int .i64 n, .int .i64 0, .int .i64 0]).t5
              exact bodyPost_ret (v := .agg #[.int .i64 4, .string (s.extract i m), .int .i64 n, .int .i64 0, .int .i64 0]) (by simp [results, Try.results41, go_sem, HE.out]) rfl ⟨rfl, below_setRow HB2.out (Nat.le_refl _) _⟩
          · rcases hstop with ⟨hlt, hz⟩ | hlt
            all_goals
              go_wp2_with (first
                | (go_at_call 60 ; refine (rclass_any _ _).mono ?_; rintro e w' ⟨rfl, rfl⟩)
                | (go_at_call 63 ; refine (HNB.out _).mono ?_; rintro e w2 ⟨rfl, hb⟩; have HR2 := Lib.hid (HR.out.keep hb); have y2 : Wr w2 w.heap.size 43 5 := HR2.out.wr; have HB2 : Hid (Below w.heap.size w w2) := Lib.hid (HB.out.trans (hb.mono HB.out.size)); clear hb))
              have HE := Lib.hid (HR2.out.row #[.int .i64 0, .string ⟨#[]⟩, .int .i64 0, .int .i64 0, .int .i64 0]).t5
              exact bodyPost_ret (v := .agg #[.int .i64 0, .string ⟨#[]⟩, .int .i64 0, .int .i64 0, .int .i64 0]) (by simp [results, Try.results41, go_sem, HE.out]) rfl ⟨rfl, below_setRow HB2.out (Nat.le_refl _) _⟩
    · have HW := Lib.hid (tokZ_sym s[i] (s.data.toList.drop (i + 1)) h12 h3)
      rw [← HD.out, HV.out] at HW
      have e3 : (cls s[i].toNat == 3) = false := by rw [beq_eq_false_iff_ne]; exact h3
      clear h12 h3
      go_enter Try.func41, Try.ntmps41
      go_wp2_with (first
        | (go_at_call 60 ; refine (rclass_any _ _).mono ?_; rintro e w' ⟨rfl, rfl⟩)
        | (go_at_call 64
           refine (rsymbols_any _).mono ?_
           rintro e ws ⟨rfl, hw⟩
           have HRs := Lib.hid (hw ▸ Bo.alloc HR.out (.cells (strs symbols).toArray 9))
           have HBs : Hid (Below w.heap.size w ws) := Lib.hid (hw ▸ HB.out.alloc HB.out.size _)
           have HRD : Hid (Rd (w.heap.size + 1 + 1) ws (some ⟨w.heap.size + 1, 0, none⟩) 11 11 1 (strs symbols)) := Lib.hid (sym_rd hw (World.size_alloc w _))
           clear hw))
      have y2 : Wr ws w.heap.size 43 5 := HRs.out.wr
      go_loop [11, 100] (fun _ j => ∃ m : Nat, m ≤ 11 ∧ j = .int .i64 m ∧ Hid (∀ x (hx : x < symbols.length), x < m → pre? symbols[x].data.toList (s.data.toList.drop i) = false)) (fun _ j => 11 - (intOf j).toNat)
      case atStart => exact ⟨0, Nat.zero_le _, rfl, fun m _ h0 => by omega⟩
      case round =>
        obtain ⟨m, hm, rfl, HN⟩ := hrel
        by_cases hlt : m < 11
        · obtain ⟨ab, ao, hae, hl, hc⟩ := HRD.out.strAt m hlt
          cases hae
          obtain ⟨sy, hsy⟩ : ∃ sy, symbols[m] = sy := ⟨_, rfl⟩
          rw [hsy] at hc
          simp only [Nat.zero_add] at hc
          have hlt' : (m : Int) < 11 := by omega
          have hsl : sy.size ≤ 1000 := by
            have hmem : sy ∈ symbols := hsy ▸ List.getElem_mem hl
            simp only [symbols, List.mem_cons, List.not_mem_nil, or_false] at hmem
            rcases hmem with rfl | rfl | rfl | rfl | rfl | rfl | rfl | rfl | rfl | rfl | rfl <;> decide
          have HST := Lib.hid (fun W => rbegins_any s sy i W (Nat.le_of_lt hi) hs hsl)
          cases hb : pre? sy.data.toList (s.data.toList.drop i) with
          | true =>
            rw [hb] at HST
            have hf : symbols.find? (fun y => pre? y.data.toList (s.data.toList.drop i)) = some sy := by
              rw [← hsy, List.find?_eq_some_iff_getElem]
              refine ⟨by rw [hsy]; exact hb, m, hl, rfl, fun x hx => ?_⟩
              rw [HN.out x (by omega) hx]; rfl
            have hv := HW.out
            rw [hf] at hv
            simp only [Prod.mk.injEq] at hv
            obtain ⟨h1, h2, h3⟩ := hv
            subst h1; subst h2; subst h3
            clear hf hb hsy hsl
            go_wp2_with (go_at_call 40 ; refine (HST.out _).mono ?_; rintro e w' ⟨rfl, rfl⟩)
            have HE := Lib.hid (HRs.out.row #[.int .i64 6, .string t, .int .i64 0, .int .i64 0, .int .i64 0]).t5
            exact bodyPost_ret (v := .agg #[.int .i64 6, .string t, .int .i64 0, .int .i64 0, .int .i64 0]) (by simp [results, Try.results41, go_sem, HE.out]) rfl ⟨rfl, below_setRow HBs.out (Nat.le_refl _) _⟩
          | false =>
            rw [hb] at HST
            have HN2 : Hid (∀ x (hx : x < symbols.length), x < m + 1 → pre? symbols[x].data.toList (s.data.toList.drop i) = false) := Lib.hid (fun x hx h1 => by
              rcases Nat.lt_or_ge x m with h2 | h2
              · exact HN.out x hx h2
              · obtain rfl : x = m := by omega
                rw [hsy]; exact hb)
            clear hb hsy hsl
            go_wp2_with (go_at_call 40 ; refine (HST.out _).mono ?_; rintro e w' ⟨rfl, rfl⟩)
            go_round
            case rel => exact ⟨m + 1, by omega, by go_num, HN2.out⟩
            case measure => simp [intOf]; omega
        · have hk : m = 11 := by omega
          subst hk
          have hf : symbols.find? (fun y => pre? y.data.toList (s.data.toList.drop i)) = none := by
            rw [List.find?_eq_none]
            intro y hy
            obtain ⟨x, hx, rfl⟩ := List.getElem_of_mem hy
            rw [HN.out x hx hx]; decide
          have hv := HW.out
          rw [hf] at hv
          simp only [Prod.mk.injEq] at hv
          obtain ⟨h1, h2, h3⟩ := hv
          subst h1; subst h2; subst h3
          clear hf
          go_wp2
          have HE := Lib.hid (HRs.out.row #[.int .i64 0, .string ⟨#[]⟩, .int .i64 0, .int .i64 0, .int .i64 0]).t5
          exact bodyPost_ret (v := .agg #[.int .i64 0, .string ⟨#[]⟩, .int .i64 0, .int .i64 0, .int .i64 0]) (by simp [results, Try.results41, go_sem, HE.out]) rfl ⟨rfl, below_setRow HBs.out (Nat.le_refl _) _⟩
end Go.Proofs.Ytnmlobakiclgiaa

/-
  The document's Scan, walked: the tokens of a text, the error's number, and where. No condition but sizes.
-/
namespace Go.Proofs.Ytnmlobakiclgiaa
open Go.RowKit
theorem store_pos {dst : Option Nat} {ty : TypeId} {pos : String} {after : Array Edge} {guard : Option (Nat × Bool)} {x y : Operand} {a : Act} {w : World} {K : Act → World → Prop} {Q : Exit → Act → World → Prop} (h : StOk 25 2 w (a.eval x) (a.eval y)) :
    Oper.wp Try.prog { dst := dst, op := .store 25 x y, type := ty, pos := pos, after := after, guard := guard } a w K Q = K (a.put dst undef) (w.setRow (stB (a.eval x)) (stC (a.eval y))) := wp_store_T rfl (by kernel_rfl) h
theorem stOk_pos {w : World} {g : Nat} {l c : Int} : StOk 25 2 w (.pointer (some ⟨g, 0, none⟩)) (.agg #[.int .i64 l, .int .i64 c]) = Wr w g 25 2 := stOk_eq rfl (by simp [Value.oneCell'])
attribute [local go_sem ↓] store_tok store_pos
attribute [local go_sem] stOk_tok stOk_pos stB_eq stC_eq wr_drew wr_alloc wr_row wr_drewN
theorem wpList_app_ex {P : Program} {ops : Array Oper} {rest : List Oper} {o : Oper} {a : Act} {w : World} {Q : Exit → Act → World → Prop} {v1 v2 : Value} {ts : Array TypeId} {R : Value → World → Prop} (hgd : o.guard = none) (s x : Operand)
    (ho : o.op = .call { callee := .builtin .append, args := #[s, x], argTypes := ts }) (hv : a.eval s = v1) (hx : a.eval x = v2) (hr : ∃ v w', (Builtin.append_ ts o.type #[v1, v2]).run P w = .ok v w' ∧ R v w') (h : ∀ v w', R v w' → wpList P ops Q rest (a.put o.dst v) w') : wpList P ops Q (o :: rest) a w := by
  obtain ⟨v, w', h1, h2⟩ := hr
  exact wpList_plain hgd fun _ hK => wp_app_eq s x ho hv hx h1 (hK _ _ (h v w' h2))
theorem Bo.t2 {w : World} {q : Nat} {t : TypeId} {c0 c1 : Value} (h : Bo w q t #[c0, c1]) : w.cell? ⟨q, 0, none⟩ = some c0 ∧ w.cell? ⟨q, 1, none⟩ = some c1 := ⟨h.cell rfl, h.cell rfl⟩
structure RxSt (w0 : World) (out : Value) (w : World) (ts : List Tok) : Prop where
  bel : Below w0.heap.size w0 w
  res : Bo w w0.heap.size 25 #[.int .i64 0, .int .i64 0]
  own : OwnT (w0.heap.size + 1) w out ts
theorem RxSt.keep {w0 : World} {out : Value} {w w' : World} {ts : List Tok} (h : RxSt w0 out w ts) (hb : Below w.heap.size w w') : RxSt w0 out w' ts := ⟨h.bel.trans (hb.mono h.bel.size), h.res.keep hb, h.own.keep hb⟩
theorem RxSt.dr {w0 : World} {out : Value} {w : World} {ts : List Tok} (h : RxSt w0 out w ts) : RxSt w0 out w.drew ts := ⟨Below.drew h.bel, h.res, h.own⟩
theorem RxSt.other {w0 : World} {out : Value} {w : World} {ts : List Tok} (h : RxSt w0 out w ts) {tb : Nat} (htb : w0.heap.size + 1 ≤ tb) (hne : out.ownBlock ≠ some tb) (j : Nat) (v : Value) : RxSt w0 out (w.setCell ⟨tb, j, none⟩ v) ts :=
  ⟨h.bel.setCell (p := ⟨tb, j, none⟩) (by show w0.heap.size ≤ tb; omega) v, h.res.far j v (by omega), h.own.grown (grownBy_setCell w tb j v) (fun k hk => by injection hk with hk; subst hk; exact hne)⟩
theorem RxSt.app {w0 : World} {out : Value} {W : World} {ts : List Tok} (h : RxSt w0 out W ts) (t : Tok) {m : Nat} (hm : ts.length = m) (hts : ts.length ≤ 100000) {G : Nat} (hG : W.heap.size = G) :
    ∃ v' w', (Builtin.append_ #[41, 41] 41 #[out, .slice (some ⟨G, 0, none⟩) 1 1]).run Try.prog (W.alloc (.cells (tokR t).toArray 43)) = .ok v' w' ∧ ((∃ a c, v' = .slice a (m + 1) c) ∧ RxSt w0 v' w' (ts ++ [t]) ∧
      ∀ tb ty cs, Bo W tb ty cs → out.ownBlock ≠ some tb → Bo w' tb ty cs ∧ v'.ownBlock ≠ some tb) := by
  subst hG; subst hm
  have hx := h.keep (below_new W (.cells (tokR t).toArray 43))
  have hb0 := h.bel.size
  have hrl := Bo.lt h.res
  obtain ⟨v', w', hr, ho, hg, hy⟩ := app_tok (t := t) (g := W.heap.size) 41 hx.own (fun j u hu => (Bo.new W 43 (tokR t).toArray).cell (by simpa using hu)) hts (by rw [World.size_alloc]; omega)
  have hob := hx.own.lt
  refine ⟨v', w', hr, (by obtain ⟨a, c, e, _⟩ := ho.form; exact ⟨a, c, by rw [e, List.length_append]; rfl⟩), ⟨grown_below hx.bel hg (Nat.le_refl _) (fun k hk => by have := (hob k hk).1; omega), Bo.grown hx.res hg (fun k hk e => by have := (hob k hk).1; omega), ho⟩, fun tb ty cs hb hne => ⟨Bo.grown (hb.alloc _) hg (fun k hk e => hne (by rw [hk, e])), fun e => ?_⟩⟩
  rcases hy with hy | hy
  · exact hne (hy ▸ e)
  · have := hy _ e; have := hb.lt; rw [World.size_alloc] at *; omega
theorem tokZ_tok {r : List UInt8} {k n : Int} {t : ByteArray} (h : tokZ r = (k, t, n)) (hk : k ≠ 0) : tokL r = some (k, t.data.toList, n) := by
  unfold tokZ at h
  split at h
  · rename_i k' t' n' h'
    simp only [Prod.mk.injEq] at h
    obtain ⟨h1, h2, h3⟩ := h
    subst h1; subst h3; rw [h', ← h2, str_data]
  · simp only [Prod.mk.injEq] at h
    exact absurd h.1.symm hk
theorem tokZ_no {r : List UInt8} {k n : Int} {t : ByteArray} (h : tokZ r = (k, t, n)) (hk : k = 0) : tokL r = none := by
  unfold tokZ at h
  split at h
  · rename_i k' t' n' h'
    have := (tokL_pre h').2.2
    simp only [Prod.mk.injEq] at h
    omega
  · assumption
theorem rx_next {s : ByteArray} {i l c : Nat} {ts : List Tok} {k n : Int} {t : ByteArray} (hall : addT ts (scanS (s.data.toList.drop i) l c) = scanB false s.data.toList 1 1) (ht : tokL (s.data.toList.drop i) = some (k, t.data.toList, n)) :
    addT (ts ++ ((if c = 1 then [(⟨1, str [], 0, l, c⟩ : Tok)] else []) ++ [⟨k, t, n, l, c⟩])) (scanB false (s.data.toList.drop (i + t.size)) l (c + t.size)) = scanB false s.data.toList 1 1 := by
  rw [← hall, scanS_tok _ _ ht, addT_add, List.drop_drop, length_data, show str t.data.toList = t from str_eta t]
set_option maxRecDepth 100000 in
set_option maxHeartbeats 2000000 in
theorem rscan_any (s : ByteArray) (w : World) (hs : s.size ≤ 1000000) :
    Calls Try.prog 22 #[.string s] w fun e w' => ∃ a n cap, e = .returned (.tuple #[.slice a n cap, .int .i64 (lexes s).1, .agg #[.int .i64 (lexes s).2.1, .int .i64 (lexes s).2.2.1]]) ∧ Below w.heap.size w w' ∧ Rd w'.heap.size w' a n cap 5 (tokVs (lexes s).2.2.2) := by
  by_cases hlong : 4096 < s.size
  · rw [lexes_long s hlong]
    have e1 : decide ((4096 : Int) < (s.size : Int)) = true := by rw [decide_eq_true_eq]; omega
    go_enter Try.func22, Try.ntmps22
    go_wp2
    exact bodyPost_ret (v := .tuple #[.slice none 0 0, .int .i64 11, .agg #[.int .i64 0, .int .i64 0]]) (by simp [results, Try.results22, go_sem]) rfl ⟨none, 0, 0, rfl, below_new _ _, rfl, Nat.le_refl _, by decide, .inl rfl⟩
  · have e1 : decide ((4096 : Int) < (s.size : Int)) = false := by rw [decide_eq_false_iff_not]; omega
    have HS0 : Hid (RxSt w (.slice none 0 0) (w.alloc (.cells #[.int .i64 0, .int .i64 0] 25)) []) := Lib.hid ⟨below_new _ _, Bo.new w 25 _, OwnT.nil _ _⟩
    go_enter Try.func22, Try.ntmps22
    go_wp2
    go_loopw [5, 6, 7, 8, 9, 10] (fun o ln cl ii _ _ wr => ∃ (i l c : Nat) (ts : List Tok), i ≤ s.size ∧ l ≤ i + 1 ∧ c ≤ i + 1 ∧ ts.length ≤ 2 * i ∧ ii = .int .i64 i ∧ ln = .int .i64 l ∧ cl = .int .i64 c ∧ (∃ a cp, o = .slice a ts.length cp) ∧ Hid (RxSt w o wr ts) ∧ Hid (addT ts (scanB false (s.data.toList.drop i) l c) = scanB false s.data.toList 1 1)) (fun _ _ _ ii _ _ _ => s.size - (intOf ii).toNat)
    case atStart => exact ⟨0, 1, 1, [], Nat.zero_le _, Nat.le_refl _, Nat.le_refl _, Nat.zero_le _, rfl, rfl, rfl, ⟨none, 0, rfl⟩, HS0, rfl⟩
    case round =>
      clear HS0
      obtain ⟨i, l, c, ts, hi, hl, hc, hts, rfl, rfl, rfl, ⟨oa, ocp, rfl⟩, HST, HALL⟩ := hrel
      by_cases hlt : i < s.size
      · have hlt' : (i : Int) < (s.size : Int) := by omega
        have hd : s.data.toList.drop i = s[i] :: s.data.toList.drop (i + 1) := by
          rw [List.drop_eq_getElem_cons (by rw [length_data]; exact hlt)]; rfl
        have HD := Lib.hid hd
        clear hd
        by_cases h10 : s[i] = 10
        · have g1 : ((s[i].toNat : Int) == 10) = true := by rw [h10]; rfl
          have HN : Hid (addT ts (scanB false (s.data.toList.drop (i + 1)) (l + 1) 1) = scanB false s.data.toList 1 1) := Lib.hid (by rw [← HALL.out, HD.out, h10, scanB_nl])
          clear h10
          go_wp2
          go_roundw
          case rel => exact ⟨i + 1, l + 1, 1, ts, by omega, by omega, by omega, by omega, by go_num, by go_num, rfl, ⟨_, _, rfl⟩, HST, HN⟩
          case measure => simp [intOf]; omega
        · have g1 : ((s[i].toNat : Int) == 10) = false := by rw [beq_eq_false_iff_ne]; exact fun e => h10 (UInt8.toNat_inj.1 (by show s[i].toNat = 10; omega))
          by_cases h32 : s[i] = 32
          · have g2 : ((s[i].toNat : Int) == 32) = true := by rw [h32]; rfl
            have HN : Hid (addT ts (scanB false (s.data.toList.drop (i + 1)) l (c + 1)) = scanB false s.data.toList 1 1) := Lib.hid (by rw [← HALL.out, HD.out, h32, scanB_sp])
            clear h32 h10
            go_wp2
            go_roundw
            case rel => exact ⟨i + 1, l, c + 1, ts, by omega, by omega, by omega, by omega, by go_num, rfl, by go_num, ⟨_, _, rfl⟩, HST, HN⟩
            case measure => simp [intOf]; omega
          · have g2 : ((s[i].toNat : Int) == 32) = false := by rw [beq_eq_false_iff_ne]; exact fun e => h32 (UInt8.toNat_inj.1 (by show s[i].toNat = 32; omega))
            have HSTARTS := Lib.hid (fun W => rbegins_any s ⟨#[45, 45]⟩ i W (Nat.le_of_lt hlt) hs (by decide))
            cases hpre : pre? [45, 45] (s.data.toList.drop i) with
            | true =>
              rw [show (⟨#[45, 45]⟩ : ByteArray).data.toList = [45, 45] from rfl, hpre] at HSTARTS
              have HC : Hid (addT ts (scanB true (s.data.toList.drop i) l c) = scanB false s.data.toList 1 1) := Lib.hid (by
                rw [← HALL.out]
                rw [HD.out] at hpre
                obtain ⟨hx, hy⟩ := (pre_two _ _).1 hpre
                rw [HD.out]
                cases hr : s.data.toList.drop (i + 1) with
                | nil => rw [hr] at hy; cases hy
                | cons y r =>
                  rw [hr] at hy
                  have hy' : y = 45 := by simpa using hy
                  rw [hx, hy', scanB_rem])
              clear hpre
              go_wp2_with (go_at_call 40 ; refine (HSTARTS.out _).mono ?_; rintro e w' ⟨rfl, rfl⟩)
              go_loop [7, 8] (fun cl ii => ∃ j cc : Nat, (j = i ∨ i < j) ∧ j ≤ s.size ∧ cc ≤ j + 1 ∧ ii = .int .i64 j ∧ cl = .int .i64 cc ∧ Hid (addT ts (scanB true (s.data.toList.drop j) l cc) = scanB false s.data.toList 1 1)) (fun _ ii => s.size - (intOf ii).toNat)
              case atStart => exact ⟨i, c, .inl rfl, hi, hc, rfl, rfl, HC⟩
              case round =>
                obtain ⟨j, cc, hji, hj, hcc, rfl, rfl, HJ⟩ := hrel
                by_cases hjl : j < s.size
                · have hjl' : (j : Int) < (s.size : Int) := by omega
                  have hdj : s.data.toList.drop j = s[j] :: s.data.toList.drop (j + 1) := by
                    rw [List.drop_eq_getElem_cons (by rw [length_data]; exact hjl)]; rfl
                  by_cases hn : s[j] = 10
                  · have g3 : ((s[j].toNat : Int) == 10) = true := by rw [hn]; rfl
                    have g3' : ((s[j].toNat : Int) != 10) = false := by rw [bne, g3]; rfl
                    have hij : i < j := by
                      rcases hji with h | h
                      · subst h; exact absurd hn h10
                      · exact h
                    have HN : Hid (addT ts (scanB false (s.data.toList.drop j) l cc) = scanB false s.data.toList 1 1) := Lib.hid (by rw [← HJ.out, hdj, hn, scanB_nl, scanB_nl])
                    clear hn hdj h10 h32
                    go_wp2
                    go_roundw
                    case rel => exact ⟨j, l, cc, ts, by omega, by omega, by omega, by omega, rfl, rfl, rfl, ⟨_, _, rfl⟩, HST, HN⟩
                    case measure => simp [intOf]; omega
                  · have g3 : ((s[j].toNat : Int) == 10) = false := by rw [beq_eq_false_iff_ne]; exact fun e => hn (UInt8.toNat_inj.1 (by show s[j].toNat = 10; omega))
                    have g3' : ((s[j].toNat : Int) != 10) = true := by rw [bne, g3]; rfl
                    have HN : Hid (addT ts (scanB true (s.data.toList.drop (j + 1)) l (cc + 1)) = scanB false s.data.toList 1 1) := Lib.hid (by rw [← HJ.out, hdj, scanB_on _ _ _ _ hn])
                    clear hn hdj h10 h32
                    go_wp2
                    go_round
                    case rel => exact ⟨j + 1, cc + 1, by omega, by omega, by omega, by go_num, by go_num, HN⟩
                    case measure => simp [intOf]; omega
                · have hjl' : ¬ (j : Int) < (s.size : Int) := by omega
                  have HN : Hid (addT ts (scanB false (s.data.toList.drop j) l cc) = scanB false s.data.toList 1 1) := Lib.hid (by rw [← HJ.out, List.drop_eq_nil_of_le (by rw [length_data]; omega), scanB_out])
                  have hij : i < j := by omega
                  go_wp2
                  go_roundw
                  case rel => exact ⟨j, l, cc, ts, by omega, by omega, by omega, by omega, rfl, rfl, rfl, ⟨_, _, rfl⟩, HST, HN⟩
                  case measure => simp [intOf]; omega
            | false =>
              rw [show (⟨#[45, 45]⟩ : ByteArray).data.toList = [45, 45] from rfl, hpre] at HSTARTS
              have HAT : Hid (addT ts (scanS (s.data.toList.drop i) l c) = scanB false s.data.toList 1 1) := Lib.hid (by
                rw [← HALL.out, scanB_at]
                rw [HD.out]
                refine skipG_here _ _ h10 h32 (fun hh => ?_)
                rw [HD.out, (pre_two _ _).2 hh] at hpre
                cases hpre)
              obtain ⟨k, t, n, htok⟩ : ∃ k t n, tokZ (s.data.toList.drop i) = (k, t, n) := ⟨_, _, _, rfl⟩
              have HTOK := Lib.hid htok
              clear hpre h10 h32 htok HALL
              by_cases hk0 : k = 0
              · have g3 : (k == 0) = true := by rw [beq_iff_eq]; exact hk0
                have HF : Hid (lexes s = (1, (l : Int), (c : Int), [])) := Lib.hid (lexes_bad s hlong (by rw [← HAT.out, scanS_bad _ _ (List.ne_nil_of_length_pos (by rw [List.length_drop, length_data]; omega)) (tokZ_no HTOK.out hk0)]; rfl))
                clear hk0
                go_wp2_with (first
                  | (go_at_call 40 ; refine (HSTARTS.out _).mono ?_; rintro e w' ⟨rfl, rfl⟩)
                  | (go_at_call 41
                     refine (rtoken_any s i _ hlt hs HTOK.out).mono ?_
                     rintro e w2 ⟨rfl, hb⟩
                     have HS2 := Lib.hid (HST.out.keep hb)
                     have HS2' := Lib.hid ((HS2.out.keep (below_new w2 (.cells #[.int .i64 k, .string t, .int .i64 n, .int .i64 0, .int .i64 0] 43))).keep (below_new _ (.cells #[.int .i64 l, .int .i64 c] 25)))
                     have yr : Wr ((w2.alloc (.cells #[.int .i64 k, .string t, .int .i64 n, .int .i64 0, .int .i64 0] 43)).alloc (.cells #[.int .i64 l, .int .i64 c] 25)) w.heap.size 25 2 := HS2'.out.res.wr
                     clear hb))
                go_region
                all_goals go_wp2
                have HE := Lib.hid ((Bo.drew HS2'.out.res).row #[.int .i64 l, .int .i64 c]).t2
                refine bodyPost_ret (v := .tuple #[.slice none 0 0, .int .i64 1, .agg #[.int .i64 l, .int .i64 c]]) (by simp [results, Try.results22, go_sem, HE.out]) rfl ⟨none, 0, 0, by rw [HF.out], ?_, ?_⟩
                · exact below_setRow (Below.drew HS2'.out.bel) (Nat.le_refl _) _
                · rw [HF.out]; exact ⟨rfl, Nat.le_refl _, by decide, .inl rfl⟩
              · have g3 : (k == 0) = false := by rw [beq_eq_false_iff_ne]; exact hk0
                have HNX := Lib.hid (rx_next HAT.out (tokZ_tok HTOK.out hk0))
                have hpos := (tokL_pre (tokZ_tok HTOK.out hk0)).1
                have hfit := (tokL_pre (tokZ_tok HTOK.out hk0)).2.1.length_le
                rw [length_data] at hpos
                rw [List.length_drop, length_data, length_data] at hfit
                have HTS5 : Hid (ts.length ≤ 100000) := Lib.hid (by omega)
                have HTS6 : Hid ((ts ++ [(⟨1, str [], 0, l, c⟩ : Tok)]).length ≤ 100000) := Lib.hid (by rw [List.length_append]; simp; omega)
                have hsum : (i : Int) + (t.size : Int) ≤ 1000000 := by omega
                have hsum2 : (c : Int) + (t.size : Int) ≤ 2000000 := by omega
                have tok1 : True := trivial
                clear hk0
                by_cases hc1 : c = 1
                · have g4 : ((c : Int) == 1) = true := by rw [beq_iff_eq]; omega
                  have hnx := HNX.out
                  rw [if_pos hc1, ← List.append_assoc] at hnx
                  have HNY := Lib.hid hnx
                  clear hc1 hnx
                  go_wp2_with (first
                    | (go_at_call 40 ; refine (HSTARTS.out _).mono ?_; rintro e w' ⟨rfl, rfl⟩)
                    | (go_at_call 41
                       refine (rtoken_any s i _ hlt hs HTOK.out).mono ?_
                       rintro e w2 ⟨rfl, hb⟩
                       have HS2 := Lib.hid (HST.out.keep hb)
                       have hz2 : w.heap.size + 1 ≤ w2.heap.size := by have := Bo.lt HS2.out.res; omega
                       have HNE : Hid ((Value.slice oa ts.length ocp).ownBlock ≠ some w2.heap.size) := Lib.hid (fun e => by have := (HS2.out.own.lt _ e).2; omega)
                       have HS3 : Hid (RxSt w (.slice oa ts.length ocp) ((w2.alloc (.cells #[.int .i64 k, .string t, .int .i64 n, .int .i64 l, .int .i64 c] 43)).alloc (.cells #[.int .i64 l, .int .i64 c] 25)) ts) := Lib.hid ((HS2.out.keep (below_new w2 _)).keep (below_new _ _))
                       have HT3 : Hid (Bo ((w2.alloc (.cells #[.int .i64 k, .string t, .int .i64 n, .int .i64 l, .int .i64 c] 43)).alloc (.cells #[.int .i64 l, .int .i64 c] 25)) w2.heap.size 43 #[.int .i64 k, .string t, .int .i64 n, .int .i64 l, .int .i64 c]) := Lib.hid ((Bo.new w2 43 _).alloc _)
                       have hz3 : (((w2.alloc (.cells #[.int .i64 k, .string t, .int .i64 n, .int .i64 l, .int .i64 c] 43)).alloc (.cells #[.int .i64 l, .int .i64 c] 25))).heap.size = w2.heap.size + 1 + 1 := by rw [World.size_alloc, World.size_alloc]
                       have HZ3 := Lib.hid hz3
                       clear hb hz3)
                    | (at_builtin
                       have _t := tok1
                       refine wpList_app_ex rfl _ _ rfl rfl rfl (HS3.out.app ⟨1, str [], 0, l, c⟩ rfl HTS5.out HZ3.out) ?_
                       rintro v' w5 ⟨⟨va5, vc5, rfl⟩, h5, hk5⟩
                       have HS5 := Lib.hid h5
                       have hk5' := hk5 _ _ _ HT3.out HNE.out
                       have HT5 := Lib.hid hk5'.1
                       have HN5 := Lib.hid hk5'.2
                       clear h5 hk5 hk5' tok1 _t
                       obtain ⟨d0, d1, d2, d3, d4⟩ := HT5.out.t5)
                    | (at_builtin
                       refine wpList_app_ex rfl _ _ rfl rfl rfl (HS5.out.app ⟨k, t, n, l, c⟩ (m := ts.length + 1) (List.length_append ..) HTS6.out rfl) ?_
                       rintro v' w6 ⟨⟨va6, vc6, rfl⟩, h6, hk6⟩
                       have HS6 := Lib.hid h6
                       have hk6' := hk6 _ _ _ HT5.out HN5.out
                       have HT6 := Lib.hid hk6'.1
                       clear h6 hk6 hk6'
                       obtain ⟨z0, z1, z2, z3, z4⟩ := HT6.out.t5))
                  go_roundw
                  case rel => exact ⟨i + t.size, l, c + t.size, ts ++ [⟨1, str [], 0, l, c⟩] ++ [⟨k, t, n, l, c⟩], by omega, by omega, by omega, by simp; omega, by go_num, rfl, by go_num, ⟨va6, vc6, by simp⟩, HS6, HNY⟩
                  case measure => simp [intOf]; omega
                · have g4 : ((c : Int) == 1) = false := by rw [beq_eq_false_iff_ne]; omega
                  have hnx := HNX.out
                  rw [if_neg hc1, List.nil_append] at hnx
                  have HNY := Lib.hid hnx
                  clear hc1 hnx
                  go_wp2_with (first
                    | (go_at_call 40 ; refine (HSTARTS.out _).mono ?_; rintro e w' ⟨rfl, rfl⟩)
                    | (go_at_call 41
                       refine (rtoken_any s i _ hlt hs HTOK.out).mono ?_
                       rintro e w2 ⟨rfl, hb⟩
                       have HS2 := Lib.hid (HST.out.keep hb)
                       have hz2 : w.heap.size + 1 ≤ w2.heap.size := by have := Bo.lt HS2.out.res; omega
                       have HNE : Hid ((Value.slice oa ts.length ocp).ownBlock ≠ some w2.heap.size) := Lib.hid (fun e => by have := (HS2.out.own.lt _ e).2; omega)
                       have HS3 : Hid (RxSt w (.slice oa ts.length ocp) ((w2.alloc (.cells #[.int .i64 k, .string t, .int .i64 n, .int .i64 l, .int .i64 c] 43)).alloc (.cells #[.int .i64 l, .int .i64 c] 25)) ts) := Lib.hid ((HS2.out.keep (below_new w2 _)).keep (below_new _ _))
                       have HT3 : Hid (Bo ((w2.alloc (.cells #[.int .i64 k, .string t, .int .i64 n, .int .i64 l, .int .i64 c] 43)).alloc (.cells #[.int .i64 l, .int .i64 c] 25)) w2.heap.size 43 #[.int .i64 k, .string t, .int .i64 n, .int .i64 l, .int .i64 c]) := Lib.hid ((Bo.new w2 43 _).alloc _)
                       have hz3 : (((w2.alloc (.cells #[.int .i64 k, .string t, .int .i64 n, .int .i64 l, .int .i64 c] 43)).alloc (.cells #[.int .i64 l, .int .i64 c] 25))).heap.size = w2.heap.size + 1 + 1 := by rw [World.size_alloc, World.size_alloc]
                       have HZ3 := Lib.hid hz3
                       clear hb hz3)
                    | (at_builtin
                       refine wpList_app_ex rfl _ _ rfl rfl rfl (HS3.out.app ⟨k, t, n, l, c⟩ rfl HTS5.out HZ3.out) ?_
                       rintro v' w6 ⟨⟨va6, vc6, rfl⟩, h6, hk6⟩
                       have HS6 := Lib.hid h6
                       have hk6' := hk6 _ _ _ HT3.out HNE.out
                       have HT6 := Lib.hid hk6'.1
                       clear h6 hk6 hk6'
                       obtain ⟨z0, z1, z2, z3, z4⟩ := HT6.out.t5))
                  go_roundw
                  case rel => exact ⟨i + t.size, l, c + t.size, ts ++ [⟨k, t, n, l, c⟩], by omega, by omega, by omega, by simp; omega, by go_num, rfl, by go_num, ⟨va6, vc6, by simp⟩, HS6, HNY⟩
                  case measure => simp [intOf]; omega
      · have hlt' : ¬ (i : Int) < (s.size : Int) := by omega
        have HF : Hid (lexes s = (0, 0, 0, ts ++ [⟨0, str [], 0, l, c⟩])) := Lib.hid (lexes_ok s hlong (by
          rw [← HALL.out, List.drop_eq_nil_of_le (by rw [length_data]; omega)]
          show addT ts (scanS [] l c) = _
          rw [scanS_nil]; rfl))
        have HTS5 : Hid (ts.length ≤ 100000) := Lib.hid (by omega)
        go_wp2_with (first
          | (at_builtin
             refine wpList_app_ex rfl _ _ rfl rfl rfl (HST.out.app ⟨0, str [], 0, l, c⟩ rfl HTS5.out rfl) ?_
             rintro v' w6 ⟨⟨va6, vc6, rfl⟩, h6, hk6⟩
             have HS6 := Lib.hid h6
             have yr : Wr w6 w.heap.size 25 2 := h6.res.wr
             clear h6 hk6))
        have HE := Lib.hid (HS6.out.res.row #[.int .i64 0, .int .i64 0]).t2
        have hrd := (HS6.out.own.row w.heap.size #[.int .i64 0, .int .i64 0] (Nat.lt_succ_self _)).form
        obtain ⟨a', c', hv, _, _, hrd⟩ := hrd
        simp only [List.length_append, List.length_cons, List.length_nil, Value.slice.injEq] at hv hrd
        obtain ⟨rfl, _, rfl⟩ := hv
        exact bodyPost_ret (v := .tuple #[.slice va6 (ts.length + 1) vc6, .int .i64 0, .agg #[.int .i64 0, .int .i64 0]]) (by simp [results, Try.results22, go_sem, HE.out]) rfl ⟨va6, ts.length + 1, vc6, by rw [HF.out], below_setRow HS6.out.bel (Nat.le_refl _) _, by rw [HF.out]; exact hrd⟩
end Go.Proofs.Ytnmlobakiclgiaa
