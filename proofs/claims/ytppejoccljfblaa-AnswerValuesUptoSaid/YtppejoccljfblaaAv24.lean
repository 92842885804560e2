/-
  The walk of the law TermSorts: it answers true at every input. No condition but how the terms lie, and how great they are.
-/
import Derived.Test.YtppejoccljfblaaAv22
import Derived.Test.YtppejoccljfblaaAv23
import Derived.Test.YtppejoccljfblaaAv8
import Derived.Test.YtppejoccljfblaaAv7
import Derived.Test.YtppejoccljfblaaAv12
import Derived.Test.YtppejoccljfblaaAv11
namespace Go.Proofs.Ytppejoccljfblaa
open Go.RowKit

theorem asc_pairwise {l : List Tm} (h : Asc l) : l.Pairwise leT := List.pairwise_iff_getElem.2 fun i j hi hj hij => h i j hij hj _ _ (List.getElem?_eq_getElem hi) (List.getElem?_eq_getElem hj)
theorem sorted_same {l m : List Tm} (h1 : l.Pairwise leT) (h2 : m.Pairwise leT) (hp : l.Perm m) : l = m :=
  hp.eq_of_pairwise (fun a b _ _ hab hba => (cmpT_zero a b).1 (by unfold leT at *; have := cmpT_neg a b; omega)) h1 h2
theorem sortOut_mem {base : Nat} {ts : List Tm} {y : Value} {w : World} (h : SortOut base ts y w) : ∃ a k cap l, y = .slice a k cap ∧ l.Perm ts ∧ l.Pairwise leT ∧ MemW w (.s 4 (Tm.rows l)) y := by
  rcases h.out with ⟨rfl, ya, yc, rfl, hyc⟩ | ⟨w2, q, cp, d, rfl, hcp, hmx, hq, hw2, hs, hz, h0, hp, ha⟩
  · exact ⟨ya, 0, yc, [], rfl, .nil, .nil, .e ya yc 4 hyc⟩
  · exact ⟨_, _, _, d.toList.map (·.t), rfl, hp, asc_pairwise ha, by rw [← TL_all]; exact ss_mem hs (Nat.le_refl _) hcp hmx⟩
theorem Mem.slice_form {S : Nat → Prop} {w : World} {sz : Nat} {rs : List (List At)} {y : Value} (h : Mem S w (.s sz rs) y) : ∃ a n c, y = .slice a n c := by
  cases h <;> exact ⟨_, _, _, rfl⟩

set_option maxRecDepth 100000 in
set_option maxHeartbeats 2000000 in
theorem termSorts_any {ts : List Tm} {a : Option Addr} {n cap : Nat} (w : World) (h : Tms w ts a n cap) (hs : (Tm.alls ts).length ≤ 1048576) :
    Calls Try.prog 11 #[.slice a n cap] w fun e w' => e = .returned (.bool true) ∧ Below w.heap.size w w' := by
  have hcap := h.len.2.1
  have hmx := h.len.2.2
  have HL := Lib.hid h.len.1
  have H := Lib.hid h
  have HS := Lib.hid hs
  clear h hs
  by_cases hfe : fewB ts = false
  · go_enter Try.func11, Try.ntmps11
    go_wp2_with fail
    refine (awake03_any w).mono ?_
    rintro e w1 ⟨rfl, hb1⟩
    have HB1 := Lib.hid hb1
    clear hb1
    go_wp2_with fail
    refine (few_any w1 (H.out.keep HB1.out) HS.out).mono ?_
    rintro e w2 ⟨rfl, hb2⟩
    have HB2 := Lib.hid (HB1.out.trans (hb2.mono HB1.out.size))
    rw [hfe]
    clear hb2
    go_wp2_with fail
    go_ret
    exact ⟨rfl, HB2.out⟩
  · have hft : fewB ts = true := by simpa using hfe
    have h30 : n ≤ 30 := by have := HL.out; simp [fewB] at hft; omega
    clear hfe
    go_enter Try.func11, Try.ntmps11
    go_wp2_with fail
    refine (awake03_any w).mono ?_
    rintro e w1 ⟨rfl, hb1⟩
    have HB1 := Lib.hid hb1
    clear hb1
    go_wp2_with fail
    refine (few_any w1 (H.out.keep HB1.out) HS.out).mono ?_
    rintro e w2 ⟨rfl, hb2⟩
    have HB2 := Lib.hid (HB1.out.trans (hb2.mono HB1.out.size))
    rw [hft]
    clear hb2 HB1
    go_wp2_with fail
    refine (sortT_any w2 (H.out.keep HB2.out) (by omega)).mono ?_
    rintro e w3 ⟨y, rfl, ho, hb3⟩
    obtain ⟨a3, k3, c3, l, rfl, hp, hl, hm⟩ := sortOut_mem ho
    have HP := Lib.hid hp
    have HLS := Lib.hid hl
    have HM3 := Lib.hid hm
    have HB3 := Lib.hid (HB2.out.trans (hb3.mono HB2.out.size))
    clear hp hl hm hb3 ho HB2
    go_wp2_with fail
    refine (sort3_any w3 (H.out.keep HB3.out) (by omega)).mono ?_
    rintro e w4 ⟨y, rfl, hb4, L, hp, hl, ho⟩
    obtain rfl : l = L := sorted_same HLS.out hl (HP.out.trans hp.symm)
    obtain ⟨a4, c4, rfl, _, _⟩ := ho.form
    have HM4 := Lib.hid ho.memW
    have HM3' := Lib.hid (HM3.out.keep hb4)
    have HB4 := Lib.hid (HB3.out.trans (hb4.mono HB3.out.size))
    clear hp hl ho hb4 HB3 HM3
    generalize (Tm.rows l).length = k4 at HM4 ⊢
    go_wp2_with fail
    refine (sameTerms_any w4 HM3'.out HM4.out).mono ?_
    rintro e w5 ⟨rfl, hb5⟩
    rw [decide_eq_true (p := l = l) rfl]
    have HB5 := Lib.hid (HB4.out.trans (hb5.mono HB4.out.size))
    clear hb5 HB4 HM4 HM3'
    go_wp2_with fail
    refine (setT_any w5 (H.out.keep HB5.out) (by omega)).mono ?_
    rintro e w6 ⟨y, rfl, ⟨a6, k6, c6, l6, rfl, _, hp6, ha6, hm6⟩, hb6⟩
    obtain rfl : l = l6 := sorted_same HLS.out (asc_pairwise ha6) (HP.out.trans hp6.symm)
    have HM6 := Lib.hid hm6
    have HB6 := Lib.hid (HB5.out.trans (hb6.mono HB5.out.size))
    clear hp6 ha6 hm6 hb6 HB5
    go_wp2_with fail
    refine (set3_any w6 (H.out.keep HB6.out) (by omega)).mono ?_
    rintro e w7 ⟨y, rfl, hb7, L, hp, hl, hm⟩
    obtain rfl : l = L := sorted_same HLS.out hl (HP.out.trans hp.symm)
    obtain ⟨a7, k7, c7, rfl⟩ := Mem.slice_form hm
    have HM7 := Lib.hid hm
    have HM6' := Lib.hid (HM6.out.keep hb7)
    have HB7 := Lib.hid (HB6.out.trans (hb7.mono HB6.out.size))
    clear hp hl hm hb7 HB6 HM6
    go_wp2_with fail
    refine (sameTerms_any w7 HM6'.out HM7.out).mono ?_
    rintro e w8 ⟨rfl, hb8⟩
    rw [decide_eq_true (p := cT l = cT l) rfl]
    have HB8 := Lib.hid (HB7.out.trans (hb8.mono HB7.out.size))
    clear hb8 HB7 HM7 HM6'
    go_wp2_with fail
    refine (termVars_any w8 (H.out.keep HB8.out) HS.out).mono ?_
    rintro e w9 ⟨a9, n9, c9, rfl, hb9, hm9⟩
    have HM9 : Hid (MemW w9 (.s 1 (intRows (vrs 3 [] (Tm.alls ts)))) (.slice a9 n9 c9)) := Lib.hid (hm9.mono (fun _ hb => hb.2) fun _ _ => rfl)
    have HB9 := Lib.hid (HB8.out.trans (hb9.mono HB8.out.size))
    clear hb9 hm9 HB8
    go_wp2_with fail
    refine (vars3_any w9 (H.out.keep HB9.out) HS.out).mono ?_
    rintro e w10 ⟨a10, n10, c10, rfl, hb10, hm10⟩
    have HM10 : Hid (MemW w10 (.s 1 (intRows (vrs 3 [] (Tm.alls ts)))) (.slice a10 n10 c10)) := Lib.hid (hm10.mono (fun _ hb => hb.2) fun _ _ => rfl)
    have HM9' := Lib.hid (HM9.out.keep hb10)
    have HB10 := Lib.hid (HB9.out.trans (hb10.mono HB9.out.size))
    clear hb10 hm10 HB9 HM9
    go_wp2_with fail
    refine (intsEq_any w10 HM9'.out HM10.out).mono ?_
    rintro e w11 ⟨rfl, hb11⟩
    rw [decide_eq_true (p := vrs 3 [] (Tm.alls ts) = vrs 3 [] (Tm.alls ts)) rfl]
    have HB11 := Lib.hid (HB10.out.trans (hb11.mono HB10.out.size))
    clear hb11 HB10
    go_wp2_with fail
    go_ret
    exact ⟨rfl, HB11.out⟩
end Go.Proofs.Ytppejoccljfblaa

/-
  The walk of the law AnswerValues: it answers true at every input. No condition but how the answers lie, and how great they are.
-/
namespace Go.Proofs.Ytppejoccljfblaa
open Go.RowKit

theorem fewA_len {l : List Ans} (h : fewA l = true) : l.length ≤ 10 := by
  unfold fewA at h
  rw [Bool.and_eq_true] at h
  exact of_decide_eq_true h.2
set_option maxRecDepth 100000 in
set_option maxHeartbeats 20000000 in
theorem answerValues_any {l : List Ans} {n cap : Nat} {a : Option Addr} (i : Int) (w : World) (h : MemW w (.s 5 (ansRows l)) (.slice a n cap)) (hs : ∀ x ∈ l, (Tm.alls x.all).length ≤ 1048576) (hok : ∀ x ∈ l, x.value.ok) :
    Calls Try.prog 13 #[.slice a n cap, .int .i64 i] w fun e w' => e = .returned (.bool true) ∧ Below w.heap.size w w' := by
  have hl := ans_len h
  have HL := Lib.hid hl.1
  have hcap := hl.2.1
  have hmx := hl.2.2
  have H := Lib.hid h
  have HS := Lib.hid hs
  have HOK := Lib.hid hok
  clear hl h hs hok
  by_cases hf : fewA l = false
  · have HF := Lib.hid hf
    clear hf
    go_enter Try.func13, Try.ntmps13
    go_wp2_with fail
    refine (awake30_any _).mono ?_
    rintro e w1 ⟨rfl, hb⟩
    have HB1 := Lib.hid hb
    clear hb
    go_wp2_with fail
    refine (few30_any _ (MemW.keep H.out HB1.out) HS.out).mono ?_
    rintro e w2 ⟨rfl, hb⟩
    rw [HF.out]
    have HB2 := Lib.hid (HB1.out.trans (hb.mono HB1.out.size))
    clear hb
    go_wp2_with fail
    go_ret
    exact ⟨rfl, HB2.out⟩
  · have hft : fewA l = true := by simpa using hf
    have hn : n ≤ 10 := by rw [← HL.out]; exact fewA_len hft
    have HF := Lib.hid hft
    clear hf hft
    go_enter Try.func13, Try.ntmps13
    go_wp2_with fail
    refine (awake30_any _).mono ?_
    rintro e w1 ⟨rfl, hb⟩
    have HB1 := Lib.hid hb
    clear hb
    go_wp2_with fail
    refine (few30_any _ (MemW.keep H.out HB1.out) HS.out).mono ?_
    rintro e w2 ⟨rfl, hb⟩
    rw [HF.out]
    have HB2 := Lib.hid (HB1.out.trans (hb.mono HB1.out.size))
    clear hb HB1
    go_wp2_with fail
    go_loopw [5, 16] (fun v i wr => ∃ k : Nat, k ≤ n ∧ i = .int .i64 k ∧ Hid (Below w.heap.size w wr) ∧ Hid (OwnD 0 w.heap.size 96 4 wr v (Tm.rows (valuesL (l.take k))))) (fun _ i _ => n - (intOf i).toNat)
    case atStart => exact ⟨0, Nat.zero_le _, rfl, HB2, Lib.hid (by rw [List.take_zero]; exact OwnD.nil _ _ _ _ _)⟩
    case round =>
      obtain ⟨k, hk, rfl, HB, HO⟩ := hrel
      by_cases hlt : k < n
      · have hltz : (k : Int) < (n : Int) := by omega
        obtain ⟨b, o, x, ab, nb, cb, ax, nx, capx, rfl, hbB, Hx, x0, x1, x2, x3, x4, GB, GV⟩ := ans_at (MemW.keep H.out HB.out) k hlt
        have HSX := Lib.hid (Nat.le_trans alls_value (HS.out x (mem_of_at Hx.out)))
        have GV2 := Lib.hid (MemW.alloc GV.out (.cells #[.slice ab nb cb, .int .i64 x.value.kind, .string x.value.name, .int .i64 x.value.n, .slice ax nx capx] 103))
        have HLM : Hid (Tms ((wr.alloc (.cells #[.slice ab nb cb, .int .i64 x.value.kind, .string x.value.name, .int .i64 x.value.n, .slice ax nx capx] 103)).alloc (.cells #[.int .i64 x.value.kind, .string x.value.name, .int .i64 x.value.n, .slice ax nx capx] 96)) [x.value] (some ⟨wr.heap.size + 1, 0, none⟩) 1 1) := Lib.hid (by have := one_mem x.value GV2.out; rw [World.size_alloc] at this; exact this)
        have HBA := Lib.hid ((HB.out.alloc HB.out.size (.cells #[.slice ab nb cb, .int .i64 x.value.kind, .string x.value.name, .int .i64 x.value.n, .slice ax nx capx] 103)).alloc (by rw [World.size_alloc]; exact Nat.le_trans HB.out.size (Nat.le_succ _)) (.cells #[.int .i64 x.value.kind, .string x.value.name, .int .i64 x.value.n, .slice ax nx capx] 96))
        have HOA := Lib.hid ((HO.out.alloc (.cells #[.slice ab nb cb, .int .i64 x.value.kind, .string x.value.name, .int .i64 x.value.n, .slice ax nx capx] 103)).alloc (.cells #[.int .i64 x.value.kind, .string x.value.name, .int .i64 x.value.n, .slice ax nx capx] 96))
        have HZB : Hid (((wr.alloc (.cells #[.slice ab nb cb, .int .i64 x.value.kind, .string x.value.name, .int .i64 x.value.n, .slice ax nx capx] 103)).alloc (.cells #[.int .i64 x.value.kind, .string x.value.name, .int .i64 x.value.n, .slice ax nx capx] 96)).heap.size = wr.heap.size + 2) := Lib.hid (by simp)
        have HC := Lib.hid (canon3_any _ HLM.out HSX.out)
        have HN := Lib.hid (valuesL_at Hx.out)
        have HW := Lib.hid HB.out.size
        have HVL : Hid ((Tm.rows (valuesL (l.take k))).length ≤ 10) := Lib.hid (by unfold valuesL; rw [Tm.rows_len, List.length_map, List.length_take]; omega)
        rw [canTs_one] at HC
        go_wp2_with (first
          | (go_at_call 69
             refine HC.out.mono ?_
             rintro e w4 ⟨a4, n4, c4, rfl, hb, hm⟩
             have HB4 := Lib.hid hb
             have HM4 := Lib.hid hm
             have HO4 := Lib.hid (HOA.out.keep hb)
             have HZ4 : Hid (wr.heap.size + 2 ≤ w4.heap.size) := Lib.hid (by have := hb.size; rw [HZB.out] at this; exact this)
             clear hb hm)
          | (at_builtin
             refine wpList_append_D rfl _ _ rfl Try.underlying89 info_term5 rfl (by decide) rfl rfl HO4.out (HOA.out.apart (Nat.zero_le _) HBA.out.size HM4.out) (by have := HVL.out; simp only [Tm.rows, List.length_cons, List.length_nil]; omega) (by have := HVL.out; simp only [Tm.rows, List.length_cons, List.length_nil]; omega) (by have := HZ4.out; have := HW.out; omega) ?_
             intro v' w5 ho hg
             have HO5 := Lib.hid ho; clear ho
             have HG5 := Lib.hid hg; clear hg))
        go_roundw
        case rel => exact ⟨k + 1, by omega, by go_num, Lib.hid (grown_below (HBA.out.trans (HB4.out.mono HBA.out.size)) HG5.out (Nat.le_refl _) (fun b hb => (HO4.out.lt b hb).1)), Lib.hid (by rw [HN.out, Tm.rows_app]; exact HO5.out)⟩
        case measure => simp [intOf]; omega
      · obtain rfl : k = n := by omega
        have hltz : ¬ (k : Int) < (k : Int) := by omega
        have hk' : l.take k = l := List.take_of_length_le (by have := HL.out; omega)
        rw [hk'] at HO
        clear hk'
        obtain ⟨a', c', rfl, _, _⟩ := HO.out.form
        have HM := Lib.hid HO.out.memW
        have hrl : (Tm.rows (valuesL l)).length = k := by unfold valuesL; rw [Tm.rows_len, List.length_map]; exact HL.out
        rw [hrl] at HM ⊢
        clear hrl
        go_wp2_with fail
        refine (values_any wr (MemW.keep H.out HB.out) HS.out HOK.out hn).mono ?_
        rintro e w6 ⟨y, rfl, ⟨a6, k6, c6, l6, rfl, hk6, hp6, ha6, hm6⟩, hb⟩
        have HP6 := Lib.hid hp6
        have HA6 := Lib.hid ha6
        have HM6 := Lib.hid hm6
        have HMW := Lib.hid (MemW.keep HM.out hb)
        have HB6 := Lib.hid (HB.out.trans (hb.mono HB.out.size))
        clear hp6 ha6 hm6 hb
        go_wp2_with fail
        refine (set3_any w6 HMW.out (by omega)).mono ?_
        rintro e w7 ⟨y, rfl, hb7, L, hp, hl, hm⟩
        obtain rfl : l6 = L := sorted_same (asc_pairwise HA6.out) hl (HP6.out.trans hp.symm)
        obtain ⟨a7, k7, c7, rfl⟩ := Mem.slice_form hm
        have HM7 := Lib.hid hm
        have HM6' := Lib.hid (HM6.out.keep hb7)
        have HB7 := Lib.hid (HB6.out.trans (hb7.mono HB6.out.size))
        clear hp hl hm hb7 HB6 HM6
        go_wp2_with fail
        refine (sameTerms_any w7 HM6'.out HM7.out).mono ?_
        rintro e w8 ⟨rfl, hb8⟩
        rw [decide_eq_true (p := cT l6 = cT l6) rfl]
        have HB8 := Lib.hid (HB7.out.trans (hb8.mono HB7.out.size))
        clear hb8 HB7 HM7 HM6'
        have hkz : decide ((k6 : Int) ≤ (k : Int)) = true := decide_eq_true (by omega)
        go_wp2_with fail
        refine (intsEq_any (l := []) (m := []) w8 (.e _ _ _ (by decide)) (.e _ _ _ (by decide))).mono ?_
        rintro e w9 ⟨rfl, hb9⟩
        rw [decide_eq_true (p := ([] : List Int) = []) rfl]
        have HB9 := Lib.hid (HB8.out.trans (hb9.mono HB8.out.size))
        clear hb9
        go_wp2_with fail
        go_ret
        exact ⟨rfl, HB9.out⟩
end Go.Proofs.Ytppejoccljfblaa
