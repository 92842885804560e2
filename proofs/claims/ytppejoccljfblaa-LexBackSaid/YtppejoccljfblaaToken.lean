/-
  The scanner's token, walked: the token that begins at a place. No condition but sizes and how the scanner lies.
-/
import Derived.Test.YtppejoccljfblaaSkip
namespace Go.Proofs.Ytppejoccljfblaa
open Go.RowKit
attribute [local go_sem ↓] store_tok
attribute [local go_sem] stOk_tok stB_eq stC_eq wr_drew wr_alloc wr_row
theorem wr_drewN (w : World) (k q n : Nat) (t : TypeId) : Wr (w.drewN k) q t n = Wr w q t n := rfl
attribute [local go_sem] wr_drewN

/-- What token hands back: kind, text, number, whether it is one. -/
def tokV (r : List UInt8) : Int × ByteArray × Int × Bool :=
  match r with
  | [] => (0, str [], 0, false)
  | x :: _ =>
    if cls x.toNat = 1 ∨ cls x.toNat = 2 then (kindW (str (r.takeWhile partB)), str (r.takeWhile partB), 0, kindW (str (r.takeWhile partB)) != 0)
    else if cls x.toNat = 3 then (4, str (r.takeWhile isDig), numN (r.takeWhile isDig), okN (r.takeWhile isDig))
    else match symbols.find? (fun y => pre? y.data.toList r) with
      | some y => (6, y, 0, true)
      | none => (0, str [], 0, false)
theorem tokV_tok {r : List UInt8} {k n : Int} {t : ByteArray} (h : tokV r = (k, t, n, true)) : tokL r = some (k, t.data.toList, n) := by
  unfold tokV at h; unfold tokL
  cases r with
  | nil => cases h
  | cons x r =>
    simp only at h ⊢
    split at h
    · rename_i hc
      rw [if_pos hc]
      simp only [Prod.mk.injEq] at h
      obtain ⟨h1, h2, h3, h4⟩ := h
      subst h3; subst h2
      unfold kindW at h1 h4
      split at h1
      · rw [if_pos ‹_›]; subst h1; rfl
      · rw [if_neg ‹_›]
        split at h1
        · rw [if_pos ‹_›]; subst h1; rfl
        · rw [if_neg ‹_›]
          split at h1
          · rw [if_pos ‹_›]; subst h1; rfl
          · subst h1
            simp_all
    · rename_i hc
      rw [if_neg hc]
      split at h
      · rename_i h3
        rw [if_pos h3]
        simp only [Prod.mk.injEq] at h
        obtain ⟨h1, h2, h4, h5⟩ := h
        rw [if_pos h5, ← h1, ← h2, ← h4]; rfl
      · rename_i h3
        rw [if_neg h3]
        split at h
        · rename_i y hy
          rw [hy]
          simp only [Prod.mk.injEq] at h
          obtain ⟨h1, h2, h4, _⟩ := h
          subst h1; subst h2; subst h4; rfl
        · simp at h
theorem tokV_no {r : List UInt8} {k n : Int} {t : ByteArray} (h : tokV r = (k, t, n, false)) : tokL r = none := by
  unfold tokV at h; unfold tokL
  cases r with
  | nil => rfl
  | cons x r =>
    simp only at h ⊢
    split at h
    · rename_i hc
      rw [if_pos hc]
      simp only [Prod.mk.injEq] at h
      obtain ⟨h1, h2, h3, h4⟩ := h
      unfold kindW at h4
      split at h4
      · simp at h4
      · rw [if_neg ‹_›]
        split at h4
        · simp at h4
        · rw [if_neg ‹_›]
          split at h4
          · simp at h4
          · rw [if_neg ‹_›]
    · rename_i hc
      rw [if_neg hc]
      split at h
      · rename_i h3
        rw [if_pos h3]
        simp only [Prod.mk.injEq] at h
        rw [if_neg (by rw [h.2.2.2]; decide)]
      · rename_i h3
        rw [if_neg h3]
        split at h
        · simp at h
        · rename_i hy
          rw [hy]; rfl

theorem Sc.dn {w : World} {q : Nat} {s : ByteArray} {i l f : Int} {out : Value} (h : Sc w q s i l f out) (n : Nat) : Sc (w.drewN n) q s i l f out := h
theorem Bo.dn {w : World} {q : Nat} {t : TypeId} {cs : Array Value} (h : Bo w q t cs) (n : Nat) : Bo (w.drewN n) q t cs := h
theorem sym_rd {W ws : World} {N : Nat} (hw : W.alloc (.cells (strs symbols).toArray 9) = ws) (hN : W.heap.size = N) : Rd (N + 1) ws (some ⟨N, 0, none⟩) 11 11 1 (strs symbols) := by
  subst hN; subst hw; exact rd_new W (strs symbols).toArray 9 11 1 rfl (by decide)
set_option maxRecDepth 100000 in
set_option maxHeartbeats 2000000 in
theorem token_any {w : World} {q : Nat} {s : ByteArray} {line from' : Int} {out : Value} (i : Nat) (h : Sc w q s i line from' out) (hi : i < s.size) (hs : s.size ≤ 1000000) {k n : Int} {t : ByteArray} {b : Bool} (hv : tokV (s.data.toList.drop i) = (k, t, n, b)) :
    Calls Try.prog 75 #[.pointer (some ⟨q, 0, none⟩)] w fun e w' => e = .returned (.tuple #[.agg #[.int .i64 k, .string t, .int .i64 n, .int .i64 0, .int .i64 0], .bool b]) ∧ Below w.heap.size w w' := by
  have hsc : Sc (w.alloc (.cells #[.int .i64 0, .string ⟨#[]⟩, .int .i64 0, .int .i64 0, .int .i64 0] 46)) q s i line from' out := Bo.alloc h _
  have hd : s.data.toList.drop i = s[i] :: s.data.toList.drop (i + 1) := by
    rw [List.drop_eq_getElem_cons (by rw [length_data]; exact hi)]; rfl
  obtain ⟨c0, c1, c2, c3, c4⟩ := Sc.c5 hsc
  have HS := Lib.hid hsc
  have HR := Lib.hid (Bo.new w 46 #[.int .i64 0, .string ⟨#[]⟩, .int .i64 0, .int .i64 0, .int .i64 0])
  have HB : Hid (Below w.heap.size w (w.alloc (.cells #[.int .i64 0, .string ⟨#[]⟩, .int .i64 0, .int .i64 0, .int .i64 0] 46))) := Lib.hid (below_new w _)
  have HV := Lib.hid hv
  have HD := Lib.hid hd
  clear h hsc hv hd
  by_cases h12 : cls s[i].toNat = 1 ∨ cls s[i].toNat = 2
  · have HW := HV.out
    unfold tokV at HW
    rw [HD.out] at HW
    simp only [if_pos h12, Prod.mk.injEq] at HW
    rw [← HD.out] at HW
    obtain ⟨g1, g2, g3, g4⟩ := HW
    have hlen : (str ((s.data.toList.drop i).takeWhile partB)).size ≤ 1000000 := by
      have := (List.takeWhile_prefix (l := s.data.toList.drop i) partB).length_le
      rw [List.length_drop, length_data] at this
      rw [str_size]; omega
    have HWD := Lib.hid (fun W => lword_any (str ((s.data.toList.drop i).takeWhile partB)) W hlen)
    have HWH := Lib.hid (fun W (hh : Sc W q s i line from' out) => while_any i 1 3 true hh (Nat.le_of_lt hi) hs)
    rw [show inC 1 3 true = partB from funext inC_part] at HWH
    rw [g1] at g4
    rw [g1, g2, g4] at HWD
    rw [g2] at HWH
    subst g3
    clear g1 g2 g4 hlen
    have e12 : ((cls s[i].toNat == 1) = true) ∨ ((cls s[i].toNat == 1) = false ∧ (cls s[i].toNat == 2) = true) := by
      rcases h12 with h | h
      · exact .inl (by rw [h]; rfl)
      · exact .inr ⟨by rw [h]; rfl, by rw [h]; rfl⟩
    clear h12
    rcases e12 with e1 | ⟨e1, e2⟩
    all_goals
      go_enter Try.func75, Try.ntmps75
      go_wp2
      go_quiet ((go_at_call 124 ; refine (class_any _ _).mono ?_; rintro e w'' ⟨rfl, rfl⟩; exact ⟨rfl, _, rfl⟩))
      go_wp2_with (first
        | (go_at_call 128 ; refine (HWH.out _ (HS.out.dn _)).mono ?_; rintro e w1 ⟨rfl, hb⟩; have HR1 := Lib.hid ((HR.out.dn _).keep hb); have HB1 : Hid (Below w.heap.size w w1) := Lib.hid ((below_drewN HB.out _).trans (hb.mono HB.out.size)); clear hb)
        | (go_at_call 127 ; refine (HWD.out _).mono ?_; rintro e w2 ⟨rfl, hb⟩; have HR2 := Lib.hid (HR1.out.keep hb); have y2 : Wr w2 w.heap.size 46 5 := HR2.out.wr; have HB2 : Hid (Below w.heap.size w w2) := Lib.hid (HB1.out.trans (hb.mono HB1.out.size)); clear hb))
      have HE := Lib.hid (HR2.out.row #[.int .i64 k, .string t, .int .i64 0, .int .i64 0, .int .i64 0]).t5
      exact bodyPost_ret (v := .tuple #[.agg #[.int .i64 k, .string t, .int .i64 0, .int .i64 0, .int .i64 0], .bool b]) (by simp [results, Try.results75, go_sem, HE.out]) rfl ⟨rfl, below_setRow HB2.out (Nat.le_refl _) _⟩
  · by_cases h3 : cls s[i].toNat = 3
    · have HW := HV.out
      unfold tokV at HW
      rw [HD.out] at HW
      simp only [if_neg h12, if_pos h3, Prod.mk.injEq] at HW
      rw [← HD.out] at HW
      obtain ⟨g1, g2, g3, g4⟩ := HW
      have hlen : (str ((s.data.toList.drop i).takeWhile isDig)).size ≤ maxLen := by
        have := (List.takeWhile_prefix (l := s.data.toList.drop i) isDig).length_le
        rw [List.length_drop, length_data] at this
        rw [str_size]; unfold maxLen; omega
      have HWD := Lib.hid (fun W => number_any (str ((s.data.toList.drop i).takeWhile isDig)) W hlen)
      have HWH := Lib.hid (fun W (hh : Sc W q s i line from' out) => while_any i 3 3 false hh (Nat.le_of_lt hi) hs)
      rw [show inC 3 3 false = isDig from funext inC_dig] at HWH
      rw [str_data, g2, g3, g4] at HWD
      rw [g2] at HWH
      subst g1
      clear g2 g3 g4 hlen
      have e1 : (cls s[i].toNat == 1) = false := by rw [h3]; rfl
      have e2 : (cls s[i].toNat == 2) = false := by rw [h3]; rfl
      have e3 : (cls s[i].toNat == 3) = true := by rw [h3]; rfl
      clear h12 h3
      go_enter Try.func75, Try.ntmps75
      go_wp2
      go_quiet ((go_at_call 124 ; refine (class_any _ _).mono ?_; rintro e w'' ⟨rfl, rfl⟩; exact ⟨rfl, _, rfl⟩))
      go_wp2_with (first
        | (go_at_call 128 ; refine (HWH.out _ (HS.out.dn _)).mono ?_; rintro e w1 ⟨rfl, hb⟩; have HR1 := Lib.hid ((HR.out.dn _).keep hb); have HB1 : Hid (Below w.heap.size w w1) := Lib.hid ((below_drewN HB.out _).trans (hb.mono HB.out.size)); clear hb)
        | (go_at_call 129 ; refine (HWD.out _).mono ?_; rintro e w2 ⟨rfl, hb⟩; have HR2 := Lib.hid (HR1.out.keep hb); have y2 : Wr w2 w.heap.size 46 5 := HR2.out.wr; have HB2 : Hid (Below w.heap.size w w2) := Lib.hid (HB1.out.trans (hb.mono HB1.out.size)); clear hb))
      have HE := Lib.hid (HR2.out.row #[.int .i64 4, .string t, .int .i64 n, .int .i64 0, .int .i64 0]).t5
      exact bodyPost_ret (v := .tuple #[.agg #[.int .i64 4, .string t, .int .i64 n, .int .i64 0, .int .i64 0], .bool b]) (by simp [results, Try.results75, go_sem, HE.out]) rfl ⟨rfl, below_setRow HB2.out (Nat.le_refl _) _⟩
    · have HW := HV.out
      unfold tokV at HW
      rw [HD.out] at HW
      simp only [if_neg h12, if_neg h3] at HW
      rw [← HD.out] at HW
      have HWV := Lib.hid HW
      have e1 : (cls s[i].toNat == 1) = false := by rw [beq_eq_false_iff_ne]; exact fun h => h12 (.inl h)
      have e2 : (cls s[i].toNat == 2) = false := by rw [beq_eq_false_iff_ne]; exact fun h => h12 (.inr h)
      have e3 : (cls s[i].toNat == 3) = false := by rw [beq_eq_false_iff_ne]; exact h3
      clear h12 h3 HW
      go_enter Try.func75, Try.ntmps75
      go_wp2
      go_quiet ((go_at_call 124 ; refine (class_any _ _).mono ?_; rintro e w'' ⟨rfl, rfl⟩; exact ⟨rfl, _, rfl⟩))
      go_wp2_with (first
        | (go_at_call 130
           refine (symbols_any _).mono ?_
           rintro e ws ⟨rfl, hw⟩
           have HSs : Hid (Sc ws q s i line from' out) := Lib.hid (hw ▸ Bo.alloc (HS.out.dn _) _)
           have HRs := Lib.hid (hw ▸ Bo.alloc (HR.out.dn _) (.cells (strs symbols).toArray 9))
           have HBs : Hid (Below w.heap.size w ws) := Lib.hid (hw ▸ (below_drewN HB.out _).alloc HB.out.size _)
           have HRD : Hid (Rd (w.heap.size + 1 + 1) ws (some ⟨w.heap.size + 1, 0, none⟩) 11 11 1 (strs symbols)) := Lib.hid (sym_rd hw (World.size_alloc w _))
           clear hw))
      clear c0 c1 c2 c3 c4
      go_loopw [8, 42] (fun _ j wr => ∃ k : Nat, k ≤ 11 ∧ j = .int .i64 k ∧ Hid (∃ n, wr = ws.drewN n) ∧ Hid (∀ m (hm : m < symbols.length), m < k → pre? symbols[m].data.toList (s.data.toList.drop i) = false)) (fun _ j _ => 11 - (intOf j).toNat)
      case atStart => exact ⟨0, Nat.zero_le _, rfl, ⟨0, rfl⟩, fun m _ h0 => by omega⟩
      case round =>
        obtain ⟨kk, hkk, rfl, ⟨nn, rfl⟩, HN⟩ := hrel
        have y2 : Wr ws w.heap.size 46 5 := HRs.out.wr
        obtain ⟨c0, c1, c2, c3, c4⟩ := HSs.out.c5
        by_cases hlt : kk < 11
        · obtain ⟨ab, ao, hae, hl, hc⟩ := HRD.out.strAt kk hlt
          cases hae
          obtain ⟨sy, hsy⟩ : ∃ sy, symbols[kk] = sy := ⟨_, rfl⟩
          rw [hsy] at hc
          simp only [Nat.zero_add] at hc
          have hlt' : (kk : Int) < 11 := by omega
          cases hb : pre? sy.data.toList (s.data.toList.drop i) with
          | true =>
            have HP := Lib.hid hb
            have hf : symbols.find? (fun y => pre? y.data.toList (s.data.toList.drop i)) = some sy := by
              rw [← hsy, List.find?_eq_some_iff_getElem]
              refine ⟨by rw [hsy]; exact hb, kk, hl, rfl, fun m hm => ?_⟩
              rw [HN.out m (by omega) hm]; rfl
            have hv := HWV.out
            rw [hf] at hv
            simp only [Prod.mk.injEq] at hv
            obtain ⟨h1, h2, h3, h4⟩ := hv
            subst h1; subst h2; subst h3; subst h4
            clear hf hb hsy
            go_wp2
            go_quiet ((go_at_call 125 ; refine (hasPrefix_at s sy i true _ HP.out).mono ?_; rintro e w'' ⟨rfl, rfl⟩; exact ⟨rfl, _, rfl⟩))
            go_wp2
            have HE := Lib.hid (fun n => ((HRs.out.dn n).row #[.int .i64 6, .string sy, .int .i64 0, .int .i64 0, .int .i64 0]).t5)
            exact bodyPost_ret (v := .tuple #[.agg #[.int .i64 6, .string sy, .int .i64 0, .int .i64 0, .int .i64 0], .bool true]) (by simp [results, Try.results75, go_sem, HE.out]) rfl ⟨rfl, below_setRow (below_drewN HBs.out _) (Nat.le_refl _) _⟩
          | false =>
            have HP := Lib.hid hb
            have HN2 : Hid (∀ m (hm : m < symbols.length), m < kk + 1 → pre? symbols[m].data.toList (s.data.toList.drop i) = false) := Lib.hid (fun m hm h1 => by
              rcases Nat.lt_or_ge m kk with h2 | h2
              · exact HN.out m hm h2
              · obtain rfl : m = kk := by omega
                rw [hsy]; exact hb)
            clear hb hsy
            go_wp2
            go_quiet ((go_at_call 125 ; refine (hasPrefix_at s sy i false _ HP.out).mono ?_; rintro e w'' ⟨rfl, rfl⟩; exact ⟨rfl, _, rfl⟩))
            go_wp2
            go_roundw
            case rel => exact ⟨kk + 1, by omega, by go_num, ⟨_, rfl⟩, HN2.out⟩
            case measure => simp [intOf]; omega
        · have hk : kk = 11 := by omega
          subst hk
          have hf : symbols.find? (fun y => pre? y.data.toList (s.data.toList.drop i)) = none := by
            rw [List.find?_eq_none]
            intro y hy
            obtain ⟨m, hm, rfl⟩ := List.getElem_of_mem hy
            rw [HN.out m hm hm]; decide
          have hv := HWV.out
          rw [hf] at hv
          simp only [Prod.mk.injEq] at hv
          obtain ⟨h1, h2, h3, h4⟩ := hv
          subst h1; subst h2; subst h3; subst h4
          clear hf
          go_wp2
          have HE := Lib.hid ((HRs.out.dn nn).row #[.int .i64 0, .string ⟨#[]⟩, .int .i64 0, .int .i64 0, .int .i64 0]).t5
          exact bodyPost_ret (v := .tuple #[.agg #[.int .i64 0, .string ⟨#[]⟩, .int .i64 0, .int .i64 0, .int .i64 0], .bool false]) (by simp [results, Try.results75, go_sem, HE.out]) rfl ⟨rfl, below_setRow (below_drewN HBs.out nn) (Nat.le_refl _) _⟩
end Go.Proofs.Ytppejoccljfblaa
