/-
  The document's token, walked. No condition but sizes.
-/
import Derived.Test.YtppejoccljfblaaScan
namespace Go.Proofs.Ytppejoccljfblaa
open Go.RowKit
attribute [local go_sem ↓] store_flt store_tok
attribute [local go_sem] stOk_flt stOk_tok stB_eq stC_eq wr_drew wr_alloc wr_row wr_drewN

/-- What the document's token hands back: kind (0: none), text, number. -/
def tokZ (r : List UInt8) : Int × ByteArray × Int := match tokL r with | some (k, t, n) => (k, str t, n) | none => (0, str [], 0)
theorem tokZ_word (x : UInt8) (r : List UInt8) (h : cls x.toNat = 1 ∨ cls x.toNat = 2) : tokZ (x :: r) =
    if isKey (str ((x :: r).takeWhile partB)) then (5, str ((x :: r).takeWhile partB), 0) else if isWord (str ((x :: r).takeWhile partB)) 1 then (2, str ((x :: r).takeWhile partB), 0) else if isWord (str ((x :: r).takeWhile partB)) 2 then (3, str ((x :: r).takeWhile partB), 0) else (0, str [], 0) := by
  unfold tokZ tokL
  simp only [if_pos h]
  repeat' split
  all_goals simp_all
theorem tokZ_dig (x : UInt8) (r : List UInt8) (h : ¬ (cls x.toNat = 1 ∨ cls x.toNat = 2)) (h3 : cls x.toNat = 3) : tokZ (x :: r) = if okN ((x :: r).takeWhile isDig) then (4, str ((x :: r).takeWhile isDig), numN ((x :: r).takeWhile isDig)) else (0, str [], 0) := by
  unfold tokZ tokL
  simp only [if_neg h, if_pos h3]
  by_cases h4 : okN ((x :: r).takeWhile isDig) = true
  · simp only [if_pos h4]
  · simp only [if_neg h4]
theorem tokZ_sym (x : UInt8) (r : List UInt8) (h : ¬ (cls x.toNat = 1 ∨ cls x.toNat = 2)) (h3 : cls x.toNat ≠ 3) : tokZ (x :: r) = match symbols.find? (fun y => pre? y.data.toList (x :: r)) with | some y => (6, y, 0) | none => (0, str [], 0) := by
  unfold tokZ tokL
  simp only [if_neg h, if_neg h3]
  cases symbols.find? (fun y => pre? y.data.toList (x :: r)) with
  | none => rfl
  | some y => show (6, str y.data.toList, 0) = (6, y, 0); rw [show str y.data.toList = y from str_eta y]
theorem part_le (c : UInt8) : partB c = ((decide (1 ≤ cls c.toNat) && decide (cls c.toNat ≤ 3)) || ((c.toNat : Int) == 95)) := by
  simp only [partB, part]
  rw [Bool.or_comm]
theorem dig_cls (c : UInt8) : isDig c = (cls c.toNat == 3) := by
  rw [← inC_dig, inC]
  simp only [Bool.false_and, Bool.not_false, Bool.and_true]
  rw [Bool.eq_iff_iff]
  simp only [Bool.not_eq_true', Bool.or_eq_false_iff, decide_eq_false_iff_not, beq_iff_eq]
  omega

set_option maxRecDepth 100000 in
set_option maxHeartbeats 8000000 in
theorem rtoken_any (s : ByteArray) (i : Nat) (w : World) (hi : i < s.size) (hs : s.size ≤ 1000000) {k n : Int} {t : ByteArray} (hv : tokZ (s.data.toList.drop i) = (k, t, n)) :
    Calls Try.prog 78 #[.string s, .int .i64 i] w fun e w' => e = .returned (.agg #[.int .i64 k, .string t, .int .i64 n, .int .i64 0, .int .i64 0]) ∧ Below w.heap.size w w' := by
  have hd : s.data.toList.drop i = s[i] :: s.data.toList.drop (i + 1) := by
    rw [List.drop_eq_getElem_cons (by rw [length_data]; exact hi)]; rfl
  have HR := Lib.hid (Bo.new w 46 #[.int .i64 0, .string ⟨#[]⟩, .int .i64 0, .int .i64 0, .int .i64 0])
  have HB : Hid (Below w.heap.size w (w.alloc (.cells #[.int .i64 0, .string ⟨#[]⟩, .int .i64 0, .int .i64 0, .int .i64 0] 46))) := Lib.hid (below_new w _)
  have HD := Lib.hid hd
  have HV := Lib.hid hv
  clear hd hv
  by_cases h12 : cls s[i].toNat = 1 ∨ cls s[i].toNat = 2
  · have HW := Lib.hid (tokZ_word s[i] (s.data.toList.drop (i + 1)) h12)
    rw [← HD.out, HV.out] at HW
    have e12 : ((cls s[i].toNat == 1) = true) ∨ ((cls s[i].toNat == 1) = false ∧ (cls s[i].toNat == 2) = true) := by
      rcases h12 with h | h
      · exact .inl (by rw [h]; rfl)
      · exact .inr ⟨by rw [h]; rfl, by rw [h]; rfl⟩
    clear h12
    rcases e12 with e1 | ⟨e1, e2⟩
    all_goals
      go_enter Try.func78, Try.ntmps78
      go_wp2_with (go_at_call 131 ; refine (rclass_any _ _).mono ?_; rintro e w' ⟨rfl, rfl⟩)
      go_loop [6] (fun n => ∃ m : Nat, i ≤ m ∧ m ≤ s.size ∧ n = .int .i64 m ∧ Hid (∀ j (hj : j < s.data.toList.length), i ≤ j → j < m → partB s.data.toList[j] = true)) (fun n => s.size - (intOf n).toNat)
      case atStart => exact ⟨i, Nat.le_refl _, Nat.le_of_lt hi, rfl, fun j _ h1 h2 => by omega⟩
      case round =>
        obtain ⟨m, him, hm, rfl, HN⟩ := hrel
        by_cases hgo : ∃ h : m < s.size, partB s[m] = true
        · obtain ⟨hlt, hp⟩ := hgo
          have HX : Hid (∀ j (hj : j < s.data.toList.length), i ≤ j → j < m + 1 → partB s.data.toList[j] = true) := Lib.hid (fun j hj h2 h3 => by
            rcases Nat.lt_or_ge j m with h4 | h4
            · exact HN.out j hj h2 h4
            · obtain rfl : j = m := by omega
              exact hp)
          obtain ⟨b1, e3⟩ : ∃ b, decide (1 ≤ cls s[m].toNat) = b := ⟨_, rfl⟩
          obtain ⟨b2, e4⟩ : ∃ b, decide (cls s[m].toNat ≤ 3) = b := ⟨_, rfl⟩
          obtain ⟨b3, e5⟩ : ∃ b, ((s[m].toNat : Int) == 95) = b := ⟨_, rfl⟩
          rw [part_le, e3, e4, e5] at hp
          have HP := Lib.hid hp
          clear hp
          cases b1 <;> cases b2 <;> cases b3
          all_goals first
            | (exact absurd HP.out (by decide))
            | (go_wp2_with (go_at_call 131 ; refine (rclass_any _ _).mono ?_; rintro e w' ⟨rfl, rfl⟩)
               go_round
               case rel => exact ⟨m + 1, by omega, by omega, by go_num, HX.out⟩
               case measure => simp [intOf]; omega)
        · have HY : Hid (s.extract i m = str ((s.data.toList.drop i).takeWhile partB)) := Lib.hid (ext_tw partB s i m him HN.out hm (fun hk => by
            rw [length_data] at hk
            exact Bool.eq_false_iff.2 fun h => hgo ⟨hk, h⟩))
          rw [← HY.out] at HW
          have hwl : (s.extract i m).size ≤ maxLen := by
            have := (List.takeWhile_prefix (l := s.data.toList.drop i) partB).length_le
            rw [List.length_drop, length_data] at this
            rw [HY.out, str_size]; unfold maxLen; omega
          have HWL := Lib.hid hwl
          clear hwl
          have key : ∀ W, Below w.heap.size w W → True := fun _ _ => trivial
          obtain ⟨q1, hq1⟩ : ∃ b, isKey (s.extract i m) = b := ⟨_, rfl⟩
          obtain ⟨q2, hq2⟩ : ∃ b, isWord (s.extract i m) 1 = b := ⟨_, rfl⟩
          obtain ⟨q3, hq3⟩ : ∃ b, isWord (s.extract i m) 2 = b := ⟨_, rfl⟩
          rw [hq1, hq2, hq3] at HW
          have HK := Lib.hid (fun W => rkey_any (s.extract i m) W)
          have HWD := Lib.hid (fun f W => rword_any (s.extract i m) f W HWL.out)
          rw [hq1] at HK
          clear hq1 key
          have hstop : (∃ h : m < s.size, decide (1 ≤ cls (s[m]'h).toNat) = false ∧ (((s[m]'h).toNat : Int) == 95) = false) ∨ (∃ h : m < s.size, decide (cls (s[m]'h).toNat ≤ 3) = false ∧ (((s[m]'h).toNat : Int) == 95) = false) ∨ ¬ m < s.size := by
            by_cases hlt : m < s.size
            · have hp : partB s[m] = false := Bool.eq_false_iff.2 fun h => hgo ⟨hlt, h⟩
              rw [part_le, Bool.or_eq_false_iff, Bool.and_eq_false_iff] at hp
              rcases hp with ⟨hp | hp, h5⟩
              · exact .inl ⟨hlt, hp, h5⟩
              · exact .inr (.inl ⟨hlt, hp, h5⟩)
            · exact .inr (.inr hlt)
          clear hgo
          have hw : (q1 = true ∧ k = 5 ∧ t = s.extract i m ∧ n = 0) ∨ (q1 = false ∧ q2 = true ∧ k = 2 ∧ t = s.extract i m ∧ n = 0) ∨ (q1 = false ∧ q2 = false ∧ q3 = true ∧ k = 3 ∧ t = s.extract i m ∧ n = 0) ∨ (q1 = false ∧ q2 = false ∧ q3 = false ∧ k = 0 ∧ t = ⟨#[]⟩ ∧ n = 0) := by
            have h := HW.out
            cases q1 <;> cases q2 <;> cases q3 <;> simp only [if_true, if_false, Bool.false_eq_true, Prod.mk.injEq] at h <;> simp [h, str]
          clear HW
          rcases hw with ⟨rfl, rfl, rfl, rfl⟩ | ⟨rfl, rfl, rfl, rfl, rfl⟩ | ⟨rfl, rfl, rfl, rfl, rfl, rfl⟩ | ⟨rfl, rfl, rfl, rfl, rfl, rfl⟩
          · rcases hstop with ⟨hlt, hz, hz2⟩ | ⟨hlt, hz, hz2⟩ | hlt
            all_goals
              go_wp2_with (first
            | (go_at_call 131 ; refine (rclass_any _ _).mono ?_; rintro e w' ⟨rfl, rfl⟩)
            | (go_at_call 132 ; refine (HK.out _).mono ?_; rintro e w2 ⟨rfl, hb⟩; have HR2 := Lib.hid (HR.out.keep hb); have y2 : Wr w2 w.heap.size 46 5 := HR2.out.wr; have HB2 : Hid (Below w.heap.size w w2) := Lib.hid (HB.out.trans (hb.mono HB.out.size)); clear hb)
            | (go_at_call 133 ; refine (HWD.out _ _).mono ?_; rintro e w' ⟨rfl, rfl⟩))
              all_goals have HE := Lib.hid (HR2.out.row #[.int .i64 5, .string (s.extract i m), .int .i64 0, .int .i64 0, .int .i64 0]).t5
              all_goals exact bodyPost_ret (v := .agg #[.int .i64 5, .string (s.extract i m), .int .i64 0, .int .i64 0, .int .i64 0]) (by simp [results, Try.results78, go_sem, HE.out]) rfl ⟨rfl, below_setRow HB2.out (Nat.le_refl _) _⟩
          · rcases hstop with ⟨hlt, hz, hz2⟩ | ⟨hlt, hz, hz2⟩ | hlt
            all_goals
              go_wp2_with (first
            | (go_at_call 131 ; refine (rclass_any _ _).mono ?_; rintro e w' ⟨rfl, rfl⟩)
            | (go_at_call 132 ; refine (HK.out _).mono ?_; rintro e w2 ⟨rfl, hb⟩; have HR2 := Lib.hid (HR.out.keep hb); have y2 : Wr w2 w.heap.size 46 5 := HR2.out.wr; have HB2 : Hid (Below w.heap.size w w2) := Lib.hid (HB.out.trans (hb.mono HB.out.size)); clear hb)
            | (go_at_call 133 ; refine (HWD.out _ _).mono ?_; rintro e w' ⟨rfl, rfl⟩))
              all_goals have HE := Lib.hid (HR2.out.row #[.int .i64 2, .string (s.extract i m), .int .i64 0, .int .i64 0, .int .i64 0]).t5
              all_goals exact bodyPost_ret (v := .agg #[.int .i64 2, .string (s.extract i m), .int .i64 0, .int .i64 0, .int .i64 0]) (by simp [results, Try.results78, go_sem, HE.out]) rfl ⟨rfl, below_setRow HB2.out (Nat.le_refl _) _⟩
          · rcases hstop with ⟨hlt, hz, hz2⟩ | ⟨hlt, hz, hz2⟩ | hlt
            all_goals
              go_wp2_with (first
            | (go_at_call 131 ; refine (rclass_any _ _).mono ?_; rintro e w' ⟨rfl, rfl⟩)
            | (go_at_call 132 ; refine (HK.out _).mono ?_; rintro e w2 ⟨rfl, hb⟩; have HR2 := Lib.hid (HR.out.keep hb); have y2 : Wr w2 w.heap.size 46 5 := HR2.out.wr; have HB2 : Hid (Below w.heap.size w w2) := Lib.hid (HB.out.trans (hb.mono HB.out.size)); clear hb)
            | (go_at_call 133 ; refine (HWD.out _ _).mono ?_; rintro e w' ⟨rfl, rfl⟩))
              all_goals have HE := Lib.hid (HR2.out.row #[.int .i64 3, .string (s.extract i m), .int .i64 0, .int .i64 0, .int .i64 0]).t5
              all_goals exact bodyPost_ret (v := .agg #[.int .i64 3, .string (s.extract i m), .int .i64 0, .int .i64 0, .int .i64 0]) (by simp [results, Try.results78, go_sem, HE.out]) rfl ⟨rfl, below_setRow HB2.out (Nat.le_refl _) _⟩
          · rcases hstop with ⟨hlt, hz, hz2⟩ | ⟨hlt, hz, hz2⟩ | hlt
            all_goals
              go_wp2_with (first
            | (go_at_call 131 ; refine (rclass_any _ _).mono ?_; rintro e w' ⟨rfl, rfl⟩)
            | (go_at_call 132 ; refine (HK.out _).mono ?_; rintro e w2 ⟨rfl, hb⟩; have HR2 := Lib.hid (HR.out.keep hb); have y2 : Wr w2 w.heap.size 46 5 := HR2.out.wr; have HB2 : Hid (Below w.heap.size w w2) := Lib.hid (HB.out.trans (hb.mono HB.out.size)); clear hb)
            | (go_at_call 133 ; refine (HWD.out _ _).mono ?_; rintro e w' ⟨rfl, rfl⟩))
              all_goals have HE := Lib.hid (HR2.out.row #[.int .i64 0, .string ⟨#[]⟩, .int .i64 0, .int .i64 0, .int .i64 0]).t5
              all_goals exact bodyPost_ret (v := .agg #[.int .i64 0, .string ⟨#[]⟩, .int .i64 0, .int .i64 0, .int .i64 0]) (by simp [results, Try.results78, go_sem, HE.out]) rfl ⟨rfl, below_setRow HB2.out (Nat.le_refl _) _⟩
  · have e1 : (cls s[i].toNat == 1) = false := by rw [beq_eq_false_iff_ne]; exact fun h => h12 (.inl h)
    have e2 : (cls s[i].toNat == 2) = false := by rw [beq_eq_false_iff_ne]; exact fun h => h12 (.inr h)
    by_cases h3 : cls s[i].toNat = 3
    · have HW := Lib.hid (tokZ_dig s[i] (s.data.toList.drop (i + 1)) h12 h3)
      rw [← HD.out, HV.out] at HW
      have e3 : (cls s[i].toNat == 3) = true := by rw [h3]; rfl
      clear h12 h3
      go_enter Try.func78, Try.ntmps78
      go_wp2_with (go_at_call 131 ; refine (rclass_any _ _).mono ?_; rintro e w' ⟨rfl, rfl⟩)
      go_loop [6] (fun n => ∃ m : Nat, i ≤ m ∧ m ≤ s.size ∧ n = .int .i64 m ∧ Hid (∀ j (hj : j < s.data.toList.length), i ≤ j → j < m → isDig s.data.toList[j] = true)) (fun n => s.size - (intOf n).toNat)
      case atStart => exact ⟨i, Nat.le_refl _, Nat.le_of_lt hi, rfl, fun j _ h1 h2 => by omega⟩
      case round =>
        obtain ⟨m, him, hm, rfl, HN⟩ := hrel
        by_cases hgo : ∃ h : m < s.size, isDig s[m] = true
        · obtain ⟨hlt, hp⟩ := hgo
          have HX : Hid (∀ j (hj : j < s.data.toList.length), i ≤ j → j < m + 1 → isDig s.data.toList[j] = true) := Lib.hid (fun j hj h2 h3 => by
            rcases Nat.lt_or_ge j m with h4 | h4
            · exact HN.out j hj h2 h4
            · obtain rfl : j = m := by omega
              exact hp)
          rw [dig_cls] at hp
          go_wp2_with (go_at_call 131 ; refine (rclass_any _ _).mono ?_; rintro e w' ⟨rfl, rfl⟩)
          go_round
          case rel => exact ⟨m + 1, by omega, by omega, by go_num, HX.out⟩
          case measure => simp [intOf]; omega
        · have HY : Hid (s.extract i m = str ((s.data.toList.drop i).takeWhile isDig)) := Lib.hid (ext_tw isDig s i m him HN.out hm (fun hk => by
            rw [length_data] at hk
            exact Bool.eq_false_iff.2 fun h => hgo ⟨hk, h⟩))
          have hyl : (s.data.toList.drop i).takeWhile isDig = (s.extract i m).data.toList := by rw [HY.out, str_data]
          rw [← HY.out, hyl] at HW
          have hwl : (s.extract i m).size ≤ maxLen := by
            have := (List.takeWhile_prefix (l := s.data.toList.drop i) isDig).length_le
            rw [List.length_drop, length_data] at this
            rw [HY.out, str_size]; unfold maxLen; omega
          have HNB := Lib.hid (fun W => rnumber_any (s.extract i m) W hwl)
          obtain ⟨q1, hq1⟩ : ∃ b, okN (s.extract i m).data.toList = b := ⟨_, rfl⟩
          obtain ⟨v, hv⟩ : ∃ b, numN (s.extract i m).data.toList = b := ⟨_, rfl⟩
          rw [hq1, hv] at HW HNB
          have hstop : (∃ h : m < s.size, (cls (s[m]'h).toNat == 3) = false) ∨ ¬ m < s.size := by
            by_cases hlt : m < s.size
            · have hp : isDig s[m] = false := Bool.eq_false_iff.2 fun h => hgo ⟨hlt, h⟩
              rw [dig_cls] at hp
              exact .inl ⟨hlt, hp⟩
            · exact .inr hlt
          have hw : (q1 = true ∧ k = 4 ∧ t = s.extract i m ∧ n = v) ∨ (q1 = false ∧ k = 0 ∧ t = ⟨#[]⟩ ∧ n = 0) := by
            have h := HW.out
            cases q1 <;> simp only [if_true, if_false, Bool.false_eq_true, Prod.mk.injEq] at h <;> simp [h, str]
          clear HW hgo hq1 hv hyl hwl
          rcases hw with ⟨rfl, rfl, rfl, rfl⟩ | ⟨rfl, rfl, rfl, rfl⟩
          · rcases hstop with ⟨hlt, hz⟩ | hlt
            all_goals
              go_wp2_with (first
                | (go_at_call 131 ; refine (rclass_any _ _).mono ?_; rintro e w' ⟨rfl, rfl⟩)
                | (go_at_call 134 ; refine (HNB.out _).mono ?_; rintro e w2 ⟨rfl, hb⟩; have HR2 := Lib.hid (HR.out.keep hb); have y2 : Wr w2 w.heap.size 46 5 := HR2.out.wr; have HB2 : Hid (Below w.heap.size w w2) := Lib.hid (HB.out.trans (hb.mono HB.out.size)); clear hb))
              have HE := Lib.hid (HR2.out.row #[.int .i64 4, .string (s.extract i m), .int .i64 n, .int .i64 0, .int .i64 0]).t5
              exact bodyPost_ret (v := .agg #[.int .i64 4, .string (s.extract i m), .int .i64 n, .int .i64 0, .int .i64 0]) (by simp [results, Try.results78, go_sem, HE.out]) rfl ⟨rfl, below_setRow HB2.out (Nat.le_refl _) _⟩
          · rcases hstop with ⟨hlt, hz⟩ | hlt
            all_goals
              go_wp2_with (first
                | (go_at_call 131 ; refine (rclass_any _ _).mono ?_; rintro e w' ⟨rfl, rfl⟩)
                | (go_at_call 134 ; refine (HNB.out _).mono ?_; rintro e w2 ⟨rfl, hb⟩; have HR2 := Lib.hid (HR.out.keep hb); have y2 : Wr w2 w.heap.size 46 5 := HR2.out.wr; have HB2 : Hid (Below w.heap.size w w2) := Lib.hid (HB.out.trans (hb.mono HB.out.size)); clear hb))
              have HE := Lib.hid (HR2.out.row #[.int .i64 0, .string ⟨#[]⟩, .int .i64 0, .int .i64 0, .int .i64 0]).t5
              exact bodyPost_ret (v := .agg #[.int .i64 0, .string ⟨#[]⟩, .int .i64 0, .int .i64 0, .int .i64 0]) (by simp [results, Try.results78, go_sem, HE.out]) rfl ⟨rfl, below_setRow HB2.out (Nat.le_refl _) _⟩
    · have HW := Lib.hid (tokZ_sym s[i] (s.data.toList.drop (i + 1)) h12 h3)
      rw [← HD.out, HV.out] at HW
      have e3 : (cls s[i].toNat == 3) = false := by rw [beq_eq_false_iff_ne]; exact h3
      clear h12 h3
      go_enter Try.func78, Try.ntmps78
      go_wp2_with (first
        | (go_at_call 131 ; refine (rclass_any _ _).mono ?_; rintro e w' ⟨rfl, rfl⟩)
        | (go_at_call 135
           refine (rsymbols_any _).mono ?_
           rintro e ws ⟨rfl, hw⟩
           have HRs := Lib.hid (hw ▸ Bo.alloc HR.out (.cells (strs symbols).toArray 9))
           have HBs : Hid (Below w.heap.size w ws) := Lib.hid (hw ▸ HB.out.alloc HB.out.size _)
           have HRD : Hid (Rd (w.heap.size + 1 + 1) ws (some ⟨w.heap.size + 1, 0, none⟩) 11 11 1 (strs symbols)) := Lib.hid (sym_rd hw (World.size_alloc w _))
           clear hw))
      have y2 : Wr ws w.heap.size 46 5 := HRs.out.wr
      go_loop [11, 100] (fun _ j => ∃ m : Nat, m ≤ 11 ∧ j = .int .i64 m ∧ Hid (∀ x (hx : x < symbols.length), x < m → pre? symbols[x].data.toList (s.data.toList.drop i) = false)) (fun _ j => 11 - (intOf j).toNat)
      case atStart => exact ⟨0, Nat.zero_le _, rfl, fun m _ h0 => by omega⟩
      case round =>
        obtain ⟨m, hm, rfl, HN⟩ := hrel
        by_cases hlt : m < 11
        · obtain ⟨ab, ao, hae, hl, hc⟩ := HRD.out.strAt m hlt
          cases hae
          obtain ⟨sy, hsy⟩ : ∃ sy, symbols[m] = sy := ⟨_, rfl⟩
          rw [hsy] at hc
          simp only [Nat.zero_add] at hc
          have hlt' : (m : Int) < 11 := by omega
          have hsl : sy.size ≤ 1000 := by
            have hmem : sy ∈ symbols := hsy ▸ List.getElem_mem hl
            simp only [symbols, List.mem_cons, List.not_mem_nil, or_false] at hmem
            rcases hmem with rfl | rfl | rfl | rfl | rfl | rfl | rfl | rfl | rfl | rfl | rfl <;> decide
          have HST := Lib.hid (fun W => starts_any s sy i W (Nat.le_of_lt hi) hs hsl)
          cases hb : pre? sy.data.toList (s.data.toList.drop i) with
          | true =>
            rw [hb] at HST
            have hf : symbols.find? (fun y => pre? y.data.toList (s.data.toList.drop i)) = some sy := by
              rw [← hsy, List.find?_eq_some_iff_getElem]
              refine ⟨by rw [hsy]; exact hb, m, hl, rfl, fun x hx => ?_⟩
              rw [HN.out x (by omega) hx]; rfl
            have hv := HW.out
            rw [hf] at hv
            simp only [Prod.mk.injEq] at hv
            obtain ⟨h1, h2, h3⟩ := hv
            subst h1; subst h2; subst h3
            clear hf hb hsy hsl
            go_wp2_with (go_at_call 77 ; refine (HST.out _).mono ?_; rintro e w' ⟨rfl, rfl⟩)
            have HE := Lib.hid (HRs.out.row #[.int .i64 6, .string t, .int .i64 0, .int .i64 0, .int .i64 0]).t5
            exact bodyPost_ret (v := .agg #[.int .i64 6, .string t, .int .i64 0, .int .i64 0, .int .i64 0]) (by simp [results, Try.results78, go_sem, HE.out]) rfl ⟨rfl, below_setRow HBs.out (Nat.le_refl _) _⟩
          | false =>
            rw [hb] at HST
            have HN2 : Hid (∀ x (hx : x < symbols.length), x < m + 1 → pre? symbols[x].data.toList (s.data.toList.drop i) = false) := Lib.hid (fun x hx h1 => by
              rcases Nat.lt_or_ge x m with h2 | h2
              · exact HN.out x hx h2
              · obtain rfl : x = m := by omega
                rw [hsy]; exact hb)
            clear hb hsy hsl
            go_wp2_with (go_at_call 77 ; refine (HST.out _).mono ?_; rintro e w' ⟨rfl, rfl⟩)
            go_round
            case rel => exact ⟨m + 1, by omega, by go_num, HN2.out⟩
            case measure => simp [intOf]; omega
        · have hk : m = 11 := by omega
          subst hk
          have hf : symbols.find? (fun y => pre? y.data.toList (s.data.toList.drop i)) = none := by
            rw [List.find?_eq_none]
            intro y hy
            obtain ⟨x, hx, rfl⟩ := List.getElem_of_mem hy
            rw [HN.out x hx hx]; decide
          have hv := HW.out
          rw [hf] at hv
          simp only [Prod.mk.injEq] at hv
          obtain ⟨h1, h2, h3⟩ := hv
          subst h1; subst h2; subst h3
          clear hf
          go_wp2
          have HE := Lib.hid (HRs.out.row #[.int .i64 0, .string ⟨#[]⟩, .int .i64 0, .int .i64 0, .int .i64 0]).t5
          exact bodyPost_ret (v := .agg #[.int .i64 0, .string ⟨#[]⟩, .int .i64 0, .int .i64 0, .int .i64 0]) (by simp [results, Try.results78, go_sem, HE.out]) rfl ⟨rfl, below_setRow HBs.out (Nat.le_refl _) _⟩
end Go.Proofs.Ytppejoccljfblaa
