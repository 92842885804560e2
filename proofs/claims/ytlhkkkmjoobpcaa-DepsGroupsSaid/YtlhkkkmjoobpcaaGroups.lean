/-
  deps.Groups: the groups of a graph, each behind all that it leads to. Condition: a group may always be told.
-/
import Derived.Test.YtlhkkkmjoobpcaaReady
import Derived.Test.YtlhkkkmjoobpcaaRowAt
namespace Go.Proofs.Ytlhkkkmjoobpcaa
open Go.RowKit

def markT (told : List Bool) (g : List Int) : List Bool := g.foldl (fun d k => d.set k.toNat true) told
theorem markT_len (g : List Int) : ∀ told : List Bool, (markT told g).length = told.length := by
  unfold markT
  induction g with
  | nil => intro told; rfl
  | cons x g ih => intro told; rw [List.foldl_cons, ih, List.length_set]
/-- The groups told, one by one. -/
inductive RunG (l : List (List Int)) : List Bool → List (List Int) → List (List Int) → List (List Int) → Prop
  | done (told : List Bool) (out : List (List Int)) : RunG l told [] out out
  | step {told : List Bool} {all out res : List (List Int)} {g : List Int} : all.any (readyG l told) = true → all[all.findIdx (readyG l told)]? = some g → RunG l (markT told g) (all.eraseIdx (all.findIdx (readyG l told))) (out ++ [g]) res → RunG l told all out res
theorem groupsS_mem {l : List (List Int)} : ∀ k, ∀ g ∈ (groupsS l k).2, ∀ x ∈ g, 0 ≤ x ∧ x < (l.length : Int)
  | 0, g, hg => by cases hg
  | k + 1, g, hg => by
    rw [groupsS] at hg
    split at hg
    · exact groupsS_mem k g hg
    · rcases List.mem_append.1 hg with hg | hg
      · exact groupsS_mem k g hg
      · intro x hx
        rw [List.mem_singleton.1 hg] at hx
        unfold grpP at hx
        obtain ⟨j, hj, rfl⟩ := List.mem_map.1 hx
        have := List.mem_range.1 (List.mem_filter.1 hj).1
        omega
theorem entersG : EntersG 16 := fun _ _ => by kernel_rfl
theorem Bo.keepB {w w' : World} {g : Nat} {o : List Bool} (h : BoB w g o) (hk : w'.heap[g]? = w.heap[g]?) : BoB w' g o := by
  unfold BoB Bo at *
  rw [hk]; exact h
set_option maxRecDepth 100000 in
set_option maxHeartbeats 20000000 in
theorem Groups_any {l res : List (List Int)} {n cap : Nat} {a : Option Addr} (w : World) (h : MemW w (.s 1 (grRows l)) (.slice a n cap)) (hd : ∀ r ∈ l, r.length ≤ 1000) (hn : n ≤ 1000) (hrun : RunG l (List.replicate n false) (groupsS l n).2 [] res) :
    Calls Try.prog 7 #[.slice a n cap] w fun e w' => ∃ y, e = .returned y ∧ MemW w' (.s 1 (grRows res)) y ∧ Below w.heap.size w w' := by
  have hl := gr_len h
  have HL := Lib.hid hl.1
  have hcap := hl.2.1
  have hmx := hl.2.2
  have H := Lib.hid h
  have HD := Lib.hid hd
  have HN := Lib.hid hn
  have HRUN := Lib.hid hrun
  have HGL := Lib.hid (groupsS_len l n).2
  have HGM := Lib.hid (groupsS_mem (l := l) n)
  have HW1 := Lib.hid (below_new w (.cells #[.slice a n cap] 22))
  have HSZ1 : Hid ((w.alloc (.cells #[.slice a n cap] 22)).heap.size = w.heap.size + 1) := Lib.hid (World.size_alloc _ _)
  have c1 : (w.alloc (.cells #[.slice a n cap] 22)).cell? ⟨w.heap.size, 0, none⟩ = some (.slice a n cap) := Bo.cell (Bo.new w 22 #[.slice a n cap]) rfl
  have HC := Lib.hid (groups_any _ (MemW.keep h HW1.out) hd hn)
  generalize (groupsS l n).2 = gs0 at *
  clear hl h hd hrun
  go_enter Try.func7, Try.ntmps7
  go_wp2_with fail
  generalize w.alloc (.cells #[.slice a n cap] 22) = w1 at *
  refine HC.out.mono ?_
  rintro e w2 ⟨y3, rfl, ho3, hb2⟩
  have HB2 := Lib.hid hb2
  have HR3 := Lib.hid (RowAt.of ho3)
  obtain ⟨a3, c3, rfl, hc3, hm3⟩ := HR3.out.form
  clear ho3 hb2 HC
  have hs2 := HB2.out.size
  have c2 := cell_below c1 HB2.out
  obtain ⟨S0, hS0, hR3⟩ : ∃ S0 : Nat → Prop, (∀ b, S0 b → w1.heap.size ≤ b ∧ b < w2.heap.size ∧ (Value.slice a3 gs0.length c3).ownBlock ≠ some b) ∧ RowAt w2 S0 w1.heap.size w2 (.slice a3 gs0.length c3) gs0 :=
    ⟨_, fun b hb => ⟨by rcases hb.1.1 with h | h <;> omega, hb.1.2, hb.2⟩, HR3.out⟩
  clear HR3
  have HR3 := Lib.hid hR3
  have HS0 := Lib.hid hS0
  have HQ := Lib.hid hR3.lt
  have HLB : Hid (gs0.length = lenV (.slice a3 gs0.length c3)) := Lib.hid rfl
  generalize hq : (Value.slice a3 gs0.length c3).ownBlock = q at HS0 HQ
  clear hS0 hR3
  have HQ0 := Lib.hid hq
  clear hq
  have hmk := run_madeB n (by omega)
  have HT0 := Lib.hid (Bo.new w2 4 (boolCells (List.replicate n false)))
  have HW3 := Lib.hid (below_new w2 (.cells (boolCells (List.replicate n false)) 4))
  have HSZ3 : Hid ((w2.alloc (.cells (boolCells (List.replicate n false)) 4)).heap.size = w2.heap.size + 1) := Lib.hid (World.size_alloc _ _)
  go_wp2_with fail
  clear hmk
  generalize w2.alloc (.cells (boolCells (List.replicate n false)) 4) = w3 at *
  have HB4 := Lib.hid (below_new w3 (.cells #[.slice (some ⟨w2.heap.size, 0, none⟩) n n] 29))
  have HSZ4 : Hid ((w3.alloc (.cells #[.slice (some ⟨w2.heap.size, 0, none⟩) n n] 29)).heap.size = w3.heap.size + 1) := Lib.hid (World.size_alloc _ _)
  have c4 : (w3.alloc (.cells #[.slice (some ⟨w2.heap.size, 0, none⟩) n n] 29)).cell? ⟨w3.heap.size, 0, none⟩ = some (.slice (some ⟨w2.heap.size, 0, none⟩) n n) := Bo.cell (Bo.new w3 29 #[.slice (some ⟨w2.heap.size, 0, none⟩) n n]) rfl
  have HT4 : Hid (BoB (w3.alloc (.cells #[.slice (some ⟨w2.heap.size, 0, none⟩) n n] 29)) w2.heap.size (List.replicate n false)) := Lib.hid (Bo.alloc HT0.out _)
  generalize w3.alloc (.cells #[.slice (some ⟨w2.heap.size, 0, none⟩) n n] 29) = w4 at *
  clear HT0
  rw [HSZ3.out] at c4
  have HB24 : Hid (Below w2.heap.size w2 w4) := Lib.hid (HW3.out.trans (HB4.out.mono HW3.out.size))
  have c24 := cell_below c2 HB24.out
  have hsz4 : w4.heap.size = w2.heap.size + 2 := by rw [HSZ4.out, HSZ3.out]
  have hsz1 := HSZ1.out
  clear HW3 HB4 HSZ3 HSZ4 c2
  have HR4 : Hid (RowAt w2 S0 w1.heap.size w4 (.slice a3 gs0.length c3) gs0) := Lib.hid (HR3.out.keep fun k hk => HB24.out.block k (HR3.out.lt k hk).2)
  generalize hgT : w2.heap.size = gT at *
  have HGT := Lib.hid hgT
  go_loopw [3, 4] (fun va vo wr => ∃ (all out : List (List Int)) (told : List Bool), Hid (lenV va = all.length) ∧ Hid (RowAt w2 S0 w1.heap.size wr va all) ∧ Hid (va.ownBlock = q) ∧ Hid (RowAt w2 S0 (gT + 2) wr vo out) ∧ Hid (Far (fun b => q = some b ∨ b = gT) w4 wr) ∧ Hid (BoB wr gT told) ∧ Hid (told.length = n) ∧ Hid (RunG l told all out res) ∧ Hid (all.length + out.length ≤ n) ∧ Hid (∀ g ∈ all, ∀ x ∈ g, 0 ≤ x ∧ x < (n : Int))) (fun va _ _ => lenV va)
  case atStart => exact ⟨gs0, [], _, Lib.hid rfl, HR4, HQ0, Lib.hid (RowAt.nil _ _ _ _), Lib.hid (Far.refl _ _), HT4, Lib.hid (List.length_replicate ..), HRUN, Lib.hid (by simpa using HGL.out), Lib.hid (by have := HGM.out; rwa [HL.out] at this)⟩
  case round =>
    obtain ⟨all, out, told, HLV, HRA, HQA, HRO, HF, HM, HTL, HRU, HNN, HME⟩ := hrel
    have hwr := HF.out.size
    have HQF : Hid (∀ k, q = some k → w1.heap.size ≤ k ∧ k < gT) := Lib.hid fun k hk => by have := HQ.out k hk; omega
    have c1r : wr.cell? ⟨w.heap.size, 0, none⟩ = some (.slice a n cap) := (HF.out.cell (by omega) (fun e => by rcases e with e | e; (have := HQF.out _ e; omega); omega)).trans c24
    have c4r : wr.cell? ⟨gT + 1, 0, none⟩ = some (.slice (some ⟨gT, 0, none⟩) n n) := (HF.out.cell (by omega) (fun e => by rcases e with e | e; (have := HQF.out _ e; omega); omega)).trans c4
    have HSW : Hid (∀ b, S0 b → wr.heap[b]? = w2.heap[b]?) := Lib.hid fun b hb => by
      obtain ⟨h1, h2, h3⟩ := HS0.out b hb
      exact (HF.out.block b (by omega) (fun e => by rcases e with e | e; (exact h3 e); omega)).trans (HB24.out.block b (by omega))
    have HHW : Hid (MemW wr (.s 1 (grRows l)) (.slice a n cap)) := Lib.hid (H.out.mono (fun b hb => by have : b < w.heap.size := hb; show b < wr.heap.size; omega) fun b hb => by
      have hb' : b < w.heap.size := hb
      exact (HF.out.block b (by omega) (fun e => by rcases e with e | e; (have := HQF.out _ e; omega); omega)).trans ((HB24.out.block b (by omega)).trans ((HB2.out.block b (by omega)).trans (HW1.out.block b hb'))))
    obtain ⟨aA, cA, rfl, hcA, hmA⟩ := HRA.out.form
    by_cases hlt : 0 < all.length
    · have hltz : (0 : Int) < (all.length : Int) := by omega
      have hru := HRU.out
      cases hru with
      | done => exact absurd hlt (by simp)
      | @step _ _ _ _ g hany hg hnext =>
        have hi := (List.getElem?_eq_some_iff.1 hg).1
        have HMA : Hid (MemW wr (.s 1 (grRows all)) (.slice aA all.length cA)) := Lib.hid (HRA.out.mem (fun b hb => by
          obtain ⟨h1, h2, h3⟩ := HS0.out b hb
          exact ⟨by omega, by rw [HQA.out]; exact h3⟩) HSW.out)
        have HCI := Lib.hid (indexG_any (c1 := .pointer (some ⟨w.heap.size, 0, none⟩)) (c2 := .pointer (some ⟨gT + 1, 0, none⟩)) entersG (fun w' hb' g hg ag ng cg hm => ready_any w' (cell_below c1r hb') (MemW.keep HHW.out hb') HD.out (cell_below c4r hb') (Bo.keep HM.out hb') HTL.out hm) HMA.out hany)
        have HG := Lib.hid hg
        have HNX := Lib.hid hnext
        generalize all.findIdx (readyG l told) = i at *
        obtain ⟨gA, cA', a1, n1, c1', he, HX, HGM1⟩ : ∃ gA cA' a1 n1 c1', Value.slice aA all.length cA = .slice (some ⟨gA, 0, none⟩) all.length cA' ∧ Hid (wr.cell? ⟨gA, i, none⟩ = some (.slice a1 n1 c1')) ∧ Hid (Mem S0 w2 (.s 1 (intRows g)) (.slice a1 n1 c1')) := by
          obtain ⟨gA, cA', a1, n1, c1', he, hx, hm⟩ := HRA.out.at hi
          have e : all[i] = g := (List.getElem?_eq_some_iff.1 hg).2
          rw [e] at hm
          exact ⟨gA, cA', a1, n1, c1', he, Lib.hid hx, Lib.hid hm⟩
        cases he
        have hgq : q = some gA := HQA.out.symm
        subst hgq
        have hgA := HQF.out gA rfl
        clear hany hg hnext HRU HMA
        obtain ⟨aO, cO, rfl, hcO, hmO⟩ := HRO.out.form
        generalize hnA : all.length = nA at *
        have HNA := Lib.hid hnA
        have hmc : all.length + out.length ≤ 1000 := by have := HNN.out; omega
        go_wp2_with fail
        refine HCI.out.mono ?_
        rintro e w5 ⟨rfl, hb5⟩
        have x5 := cell_below HX.out hb5
        have HB5 := Lib.hid hb5
        clear hb5 HCI
        go_wp2_with fail
        have HF5 : Hid (Far (fun b => some gA = some b ∨ b = gT) w4 w5) := Lib.hid (far_below HF.out HB5.out)
        have hgl := HGM1.out.len
        rw [intRows_len] at hgl
        have HGLN := Lib.hid hgl.1
        have hgc := hgl.2.1
        have hgm := hgl.2.2
        clear hgl
        have HGE : Hid (∀ x ∈ g, 0 ≤ x ∧ x < (n : Int)) := Lib.hid fun x hx => HME.out g (List.mem_of_getElem? HG.out) x hx
        have HM5 := Lib.hid (Bo.keep HM.out HB5.out)
        have hw5 := HF5.out.size
        have hwr5 := HB5.out.size
        go_loopw [27] (fun v w6 => ∃ j : Nat, j ≤ n1 ∧ v = .int .i64 j ∧ Hid (Far (fun b => b = gT) w5 w6) ∧ Hid (BoB w6 gT (markT told (g.take j)))) (fun v _ => n1 - (intOf v).toNat)
        case atStart => exact ⟨0, Nat.zero_le _, rfl, Lib.hid (Far.refl _ _), HM5⟩
        case round =>
          obtain ⟨j, hj, rfl, HF6, HM6⟩ := hrel
          rename World => w6
          have hw6 := HF6.out.size
          have c4s : w6.cell? ⟨gT + 1, 0, none⟩ = some (.slice (some ⟨gT, 0, none⟩) n n) := (HF6.out.cell (by omega) (by omega)).trans (cell_below c4r HB5.out)
          have HS6 : Hid (∀ b, S0 b → w6.heap[b]? = w2.heap[b]?) := Lib.hid fun b hb => by
            obtain ⟨h1, h2, h3⟩ := HS0.out b hb
            exact (HF6.out.block b (by omega) (by omega)).trans ((HB5.out.block b (by omega)).trans (HSW.out b hb))
          by_cases hlj : j < n1
          · have hljz : (j : Int) < (n1 : Int) := by omega
            have HGM6 : Hid (MemW w6 (.s 1 (intRows g)) (.slice a1 n1 c1')) := Lib.hid (HGM1.out.mono (fun b hb => by
              obtain ⟨h1, h2, h3⟩ := HS0.out b hb
              show b < w6.heap.size
              omega) HS6.out)
            obtain ⟨b7, o7, z, rfl, hb7, Hz, y0⟩ := int_at HGM6.out j hlj
            have hz := HGE.out z (List.mem_of_getElem? Hz.out)
            obtain ⟨kz, rfl⟩ := Int.eq_ofNat_of_zero_le hz.1
            have hkz : kz < n := by omega
            have hkzz : (kz : Int) < (n : Int) := by omega
            have hMl : (markT told (g.take j)).length = n := by rw [markT_len]; exact HTL.out
            have c7 := HM6.out.at (k := kz) (by rw [hMl]; exact hkz)
            have hz7 := Bo.frozen HM6.out kz
            have HMS : Hid (markT told (g.take (j + 1)) = (markT told (g.take j)).set kz true) := Lib.hid (by unfold markT; rw [foldl_take Hz.out, Int.toNat_natCast])
            have HM7 := Lib.hid (HM6.out.put kz)
            have HF7 : Hid (Far (fun b => b = gT) w5 (w6.setCell ⟨gT, kz, none⟩ (.bool true))) := Lib.hid (far_cell HF6.out (p := ⟨gT, kz, none⟩) rfl _)
            clear hz
            go_wp2_with fail
            go_roundw
            case rel => exact ⟨j + 1, by omega, by go_num, HF7, Lib.hid (by rw [HMS.out]; exact HM7.out)⟩
            case measure => simp [intOf]; omega
          · obtain rfl : n1 = j := by omega
            have hljz : ¬ (n1 : Int) < (n1 : Int) := by omega
            rw [List.take_of_length_le (by rw [HGLN.out]; exact Nat.le_refl _)] at HM6
            have x6 : w6.cell? ⟨gA, i, none⟩ = some (.slice a1 n1 c1') := (HF6.out.cell (b := gA) (by omega) (by omega)).trans x5
            obtain ⟨us, hoO, h2O⟩ := HRO.out
            have HO6 : Hid (OwnD 0 (gT + 2) 27 1 w6 (.slice aO out.length cO) (vrows us)) := Lib.hid (hoO.keepV fun k hk => by
              have := HRO.out.lt k hk
              exact (HF6.out.block k (by omega) (by omega)).trans (HB5.out.block k (by omega)))
            have H2O := Lib.hid h2O
            have HUL : Hid ((vrows us).length ≤ 1000) := Lib.hid (by rw [vrows_len, ← h2O.len]; omega)
            clear hoO h2O
            have hs6 : gT + 2 ≤ w6.heap.size := by omega
            go_wp2_with (first
              | (at_builtin
                 refine wpList_append_D2 rfl _ _ rfl Try.underlying22 info_sl rfl (by decide) rfl rfl (HO6.out.alloc _) (own_row (row := [.v (.slice a1 n1 c1')]) rfl HO6.out hs6 (.cons (.v _ rfl) .nil)) (by have := HUL.out; simp only [List.length_cons, List.length_nil]; omega) (by have := HUL.out; simp only [List.length_cons, List.length_nil]; omega) (by rw [World.size_alloc]; omega) ?_
                 intro v' w8 ho hg _
                 have HO8 := Lib.hid ho
                 have HG8 := Lib.hid hg
                 clear ho hg))
            have HA8 : Hid (RowAt w2 S0 w1.heap.size w8 (.slice (some ⟨gA, 0, none⟩) nA cA) all) := Lib.hid (HRA.out.keep fun k hk => by
              obtain rfl : gA = k := Option.some.inj hk
              exact (HG8.out.block gA (by rw [World.size_alloc]; omega) (fun e => by have := (HO6.out.lt gA e.symm).1; omega)).trans (((below_new w6 _).block gA (by omega)).trans ((HF6.out.block gA (by omega) (by omega)).trans (HB5.out.block gA (by omega)))))
            obtain ⟨vs, hoA, h2A⟩ := HA8.out
            have H2A := Lib.hid h2A
            refine (deleteS_any hoA (i := i) hi).mono ?_
            rintro e w9 ⟨rfl, ho9, hg9⟩
            rw [vrows_erase] at ho9
            have HG9 := Lib.hid hg9
            have HA9 : Hid (RowAt w2 S0 w1.heap.size w9 (.slice (some ⟨gA, 0, none⟩) (nA - 1) cA) (all.eraseIdx i)) := Lib.hid ⟨_, ho9, H2A.out.erase i⟩
            have hlt8 := HO8.out.lt
            have HO9 : Hid (RowAt w2 S0 (gT + 2) w9 v' (out ++ [g])) := Lib.hid ⟨us ++ [.slice a1 n1 c1'], by
              have h1 : OwnD 0 (gT + 2) 27 1 w8 v' (vrows (us ++ [.slice a1 n1 c1'])) := by rw [show vrows (us ++ [.slice a1 n1 c1']) = vrows us ++ [[.v (.slice a1 n1 c1')]] by simp [vrows]]; exact HO8.out
              exact h1.keepV fun k hk => hg9.block k (hlt8 k hk).2 (fun e => by have := (hlt8 k hk).1; have := Option.some.inj e; omega), H2O.out.snoc HGM1.out⟩
            have HM9 : Hid (BoB w9 gT (markT told g)) := Lib.hid (Bo.grown (Bo.grown (Bo.alloc HM6.out _) HG8.out (fun k hk => by have := (HO6.out.lt k hk).1; omega)) hg9 (fun k hk => by have := Option.some.inj hk; omega))
            have HF9 : Hid (Far (fun b => some gA = some b ∨ b = gT) w4 w9) := Lib.hid (far_own (far_grown (far_below (HF5.out.trans (HF6.out.mono fun k hk => .inr hk)) (below_new w6 _)) HG8.out (fun k hk => by have := (HO6.out.lt k hk).1; omega)) hg9 (.inl rfl))
            clear hoA h2A ho9 hg9 hlt8
            go_wp2_with fail
            go_roundw
            case rel => exact ⟨all.eraseIdx i, out ++ [g], _, Lib.hid (by rw [List.length_eraseIdx_of_lt (by omega), hnA]; rfl), HA9, HQA, HO9, HF9, HM9, Lib.hid (by rw [markT_len]; exact HTL.out), HNX, Lib.hid (by have := HNN.out; rw [List.length_eraseIdx_of_lt (by omega), List.length_append]; simp; omega), Lib.hid fun g' hg' => HME.out g' (List.mem_of_mem_eraseIdx hg')⟩
            case measure => simp [lenV]; omega
    · obtain rfl : all = [] := by cases all with | nil => rfl | cons x y => exact absurd (show 0 < (x :: y).length by simp) hlt
      have hltz : ¬ (0 : Int) < (([] : List (List Int)).length : Int) := by simp
      have hres : out = res := by
        have h := HRU.out
        cases h with
        | done => rfl
        | step h _ _ => cases h
      subst hres
      go_wp2_with fail
      go_ret
      exact ⟨_, rfl, HRO.out.mem (fun b hb => by
        obtain ⟨h1, h2, h3⟩ := HS0.out b hb
        exact ⟨by omega, fun e => by have := (HRO.out.lt b e).1; omega⟩) HSW.out, ((HW1.out.trans (HB2.out.mono HW1.out.size)).trans ((hgT ▸ HB24.out : Below gT w2 w4).mono (by omega))).trans ((HF.out.mono (T := fun k => w.heap.size ≤ k) (fun k hk => by rcases hk with e | e; (have := HQF.out _ e; omega); omega)).toB (by omega))⟩
end Go.Proofs.Ytlhkkkmjoobpcaa
