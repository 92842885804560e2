/-
  deps.Groups' function: whether a group may be told; slices.IndexFunc of groups. No condition but how they lie.
-/
import Derived.Test.YtlhkkkmjoobpcaaGroups0
namespace Go.Proofs.Ytlhkkkmjoobpcaa
open Go.RowKit

/-- Whether all that a group leads to is told, or in it. -/
def readyG (l : List (List Int)) (told : List Bool) (g : List Int) : Bool := g.all fun i => (stepsG l i).all fun k => on told k.toNat || decide (k ∈ g)
set_option maxRecDepth 100000 in
set_option maxHeartbeats 20000000 in
theorem ready_any {l : List (List Int)} {told : List Bool} {g : List Int} {n cap ng cg q1 q2 gT : Nat} {a ag : Option Addr} (w : World) (h1 : w.cell? ⟨q1, 0, none⟩ = some (.slice a n cap)) (h : MemW w (.s 1 (grRows l)) (.slice a n cap)) (hd : ∀ r ∈ l, r.length ≤ 1000) (h2 : w.cell? ⟨q2, 0, none⟩ = some (.slice (some ⟨gT, 0, none⟩) n n)) (hT : BoB w gT told) (htl : told.length = n) (hg : MemW w (.s 1 (intRows g)) (.slice ag ng cg)) :
    Calls Try.prog 16 #[.slice ag ng cg, .pointer (some ⟨q1, 0, none⟩), .pointer (some ⟨q2, 0, none⟩)] w fun e w' => e = .returned (.bool (readyG l told g)) ∧ Below w.heap.size w w' := by
  have hl := gr_len h
  have HL := Lib.hid hl.1
  have H := Lib.hid h
  have HD := Lib.hid hd
  have H1 := Lib.hid h1
  have H2 := Lib.hid h2
  have HTB := Lib.hid hT
  have HTL := Lib.hid htl
  have HG := Lib.hid hg
  have hgl := hg.len
  rw [intRows_len] at hgl
  have HGL := Lib.hid hgl.1
  have hgc := hgl.2.1
  have hgm := hgl.2.2
  clear hl h hd h1 h2 hT htl hg hgl
  go_enter Try.func16, Try.ntmps16
  go_wp2
  go_loopw [11] (fun v wr => ∃ k : Nat, k ≤ ng ∧ v = .int .i64 k ∧ Hid (Below w.heap.size w wr) ∧ Hid ((g.take k).all (fun i => (stepsG l i).all fun k => on told k.toNat || decide (k ∈ g)) = true)) (fun v _ => ng - (intOf v).toNat)
  case atStart => exact ⟨0, Nat.zero_le _, rfl, Lib.hid (Below.refl _ _), Lib.hid (by rw [List.take_zero]; rfl)⟩
  case round =>
    obtain ⟨k, hk, rfl, HB, HA⟩ := hrel
    by_cases hlt : k < ng
    · have hltz : (k : Int) < (ng : Int) := by omega
      obtain ⟨b, o, x, rfl, hbB, Hx, x0⟩ := int_at (MemW.keep HG.out HB.out) k hlt
      have c1 := cell_below H1.out HB.out
      have hq1 := World.block_lt_of_cell? wr _ c1
      have HT1 : Hid ((g.take (k + 1)).all (fun i => (stepsG l i).all fun k => on told k.toNat || decide (k ∈ g)) = (stepsG l x).all fun k => on told k.toNat || decide (k ∈ g)) := Lib.hid (by rw [take_at Hx.out, List.all_append, HA.out]; simp)
      have HFA : Hid (((stepsG l x).all fun k => on told k.toNat || decide (k ∈ g)) = false → readyG l told g = false) := Lib.hid fun h => by
        unfold readyG
        rw [Bool.eq_false_iff]
        intro hall
        have := List.all_eq_true.1 hall x (List.mem_of_getElem? Hx.out)
        simp only [h] at this
        cases this
      have HOKS := Lib.hid (fun (y : Int) (hy : y ∈ stepsG l x) => by have := stepsG_ok hy; rw [HL.out] at this; exact okN_iff.1 this)
      go_wp2_with fail
      refine (steps_any x wr (MemW.keep H.out HB.out) HD.out).mono ?_
      rintro e w2 ⟨y2, rfl, ho2, hb2⟩
      obtain ⟨a2, c2, rfl, hc2, hm2⟩ := ho2.form
      have HM2 := Lib.hid ho2.memW
      have HB2 := Lib.hid (Below.to HB.out hb2)
      rw [intRows_len] at HM2 hc2
      clear ho2 hb2 x0
      generalize hS : stepsG l x = S at *
      clear hS
      generalize hns : S.length = ns at *
      have HNS := Lib.hid hns
      clear hns
      simp only [intRows_len]
      rw [HNS.out]
      go_wp2_with fail
      go_loopw [19] (fun v w3 => ∃ j : Nat, j ≤ ns ∧ v = .int .i64 j ∧ Hid (Below w2.heap.size w2 w3) ∧ Hid ((S.take j).all (fun k => on told k.toNat || decide (k ∈ g)) = true)) (fun v _ => ns - (intOf v).toNat)
      case atStart => exact ⟨0, Nat.zero_le _, rfl, Lib.hid (Below.refl _ _), Lib.hid (by rw [List.take_zero]; rfl)⟩
      case round =>
        obtain ⟨j, hj, rfl, HB3, HA3⟩ := hrel
        rename World => w3
        have HBW := Lib.hid (Below.to HB2.out HB3.out)
        by_cases hlj : j < ns
        · have hljz : (j : Int) < (ns : Int) := by omega
          obtain ⟨b3, o3, z, rfl, hb3, Hz, y0⟩ := int_at (MemW.keep HM2.out HB3.out) j hlj
          have hz := HOKS.out z (List.mem_of_getElem? Hz.out)
          obtain ⟨kz, rfl⟩ := Int.eq_ofNat_of_zero_le hz.1
          have hkz : kz < n := by omega
          have hkzz : (kz : Int) < (n : Int) := by omega
          have c2 := cell_below H2.out HBW.out
          have hq2 := World.block_lt_of_cell? w3 _ c2
          have c3 := cell_below (HTB.out.at (k := kz) (by rw [HTL.out]; exact hkz)) HBW.out
          have hq3 := World.block_lt_of_cell? w3 _ c3
          have HT3 : Hid ((S.take (j + 1)).all (fun k => on told k.toNat || decide (k ∈ g)) = (on told kz || decide ((kz : Int) ∈ g))) := Lib.hid (by rw [take_at Hz.out, List.all_append, HA3.out]; simp)
          have HF3 : Hid ((on told kz || decide ((kz : Int) ∈ g)) = false → readyG l told g = false) := Lib.hid fun h => HFA.out (by
            rw [Bool.eq_false_iff]
            intro hall
            have := List.all_eq_true.1 hall _ (List.mem_of_getElem? Hz.out)
            simp only [Int.toNat_natCast, h] at this
            cases this)
          clear hz
          cases hon : on told kz with
          | true =>
            rw [hon] at HT3 c3
            clear hon HF3
            go_wp2_with fail
            go_roundw
            case rel => exact ⟨j + 1, by omega, by go_num, HB3, Lib.hid (by rw [HT3.out]; rfl)⟩
            case measure => simp [intOf]; omega
          | false =>
            rw [hon] at HT3 c3 HF3
            clear hon
            have HCG := Lib.hid (contains_int_any (kz : Int) w3 (MemW.keep HG.out HBW.out))
            cases hm : decide ((kz : Int) ∈ g) with
            | true =>
              rw [hm] at HT3 HCG
              clear hm HF3
              go_wp2_with fail
              refine HCG.out.mono ?_
              rintro e w4 ⟨rfl, rfl⟩
              go_wp2_with fail
              go_roundw
              case rel => exact ⟨j + 1, by omega, by go_num, HB3, Lib.hid (by rw [HT3.out]; rfl)⟩
              case measure => simp [intOf]; omega
            | false =>
              rw [hm] at HCG HF3
              have HR := Lib.hid (HF3.out rfl)
              clear hm HF3
              go_wp2_with fail
              refine HCG.out.mono ?_
              rintro e w4 ⟨rfl, rfl⟩
              go_wp2_with fail
              go_ret
              exact ⟨by rw [HR.out]; rfl, HBW.out⟩
        · obtain rfl : ns = j := by omega
          have hljz : ¬ (ns : Int) < (ns : Int) := by omega
          have HE : Hid ((S.all fun k => on told k.toNat || decide (k ∈ g)) = true) := Lib.hid (by have h1 := HA3.out; rwa [List.take_of_length_le (by rw [HNS.out]; exact Nat.le_refl _)] at h1)
          go_wp2
          go_roundw
          case rel => exact ⟨k + 1, by omega, by go_num, HBW, Lib.hid (by rw [HT1.out]; exact HE.out)⟩
          case measure => simp [intOf]; omega
    · obtain rfl : ng = k := by omega
      have hltz : ¬ (ng : Int) < (ng : Int) := by omega
      have HR : Hid (readyG l told g = true) := Lib.hid (by have h1 := HA.out; rw [List.take_of_length_le (by rw [HGL.out]; exact Nat.le_refl _)] at h1; exact h1)
      go_wp2
      go_ret
      exact ⟨by rw [HR.out]; rfl, HB.out⟩
def TestsG (w : World) (F : Nat) (c1 c2 : Value) (p : List Int → Bool) (all : List (List Int)) : Prop :=
  ∀ w' : World, Below w.heap.size w w' → ∀ g ∈ all, ∀ (ag : Option Addr) (ng cg : Nat), MemW w' (.s 1 (intRows g)) (.slice ag ng cg) →
    Calls Try.prog F #[.slice ag ng cg, c1, c2] w' fun e w2 => e = .returned (.bool (p g)) ∧ Below w'.heap.size w' w2
def EntersG (F : Nat) : Prop := ∀ (args : Array Value) (w : World), Sem.run Try.prog (callFunc F args) w = .ok (.enter F args) w
set_option maxRecDepth 100000 in
set_option maxHeartbeats 20000000 in
theorem indexG_any {all : List (List Int)} {p : List Int → Bool} {F : Nat} {c1 c2 : Value} {n cap : Nat} {a : Option Addr} {w : World} (hE : EntersG F) (hf : TestsG w F c1 c2 p all) (h : MemW w (.s 1 (grRows all)) (.slice a n cap)) (hany : all.any p = true) :
    Calls Try.prog 19 #[.slice a n cap, .func (.func F) #[] #[c1, c2]] w fun e w' => e = .returned (.int .i64 (all.findIdx p : Nat)) ∧ Below w.heap.size w w' := by
  have hl := gr_len h
  have HL := Lib.hid hl.1
  have hcap := hl.2.1
  have hmx := hl.2.2
  have H := Lib.hid h
  have HQ := Lib.hid hf
  have HY := Lib.hid hany
  unfold EntersG at hE
  clear hl h hf hany
  go_enter Try.func19, Try.ntmps19
  go_wp2
  go_loopw [5, 8] (fun _ i wr => ∃ k : Nat, k ≤ n ∧ i = .int .i64 k ∧ Hid (Below w.heap.size w wr) ∧ Hid (∀ j y, j < k → all[j]? = some y → p y = false)) (fun _ i _ => n - (intOf i).toNat)
  case atStart => exact ⟨0, Nat.zero_le _, rfl, Lib.hid (Below.refl _ _), Lib.hid (fun j y hj => absurd hj (Nat.not_lt_zero _))⟩
  case round =>
    obtain ⟨k, hk, rfl, HB, HN⟩ := hrel
    by_cases hlt : k < n
    · have hltz : (k : Int) < (n : Int) := by omega
      obtain ⟨b, o, g, a1, n1, c1', rfl, hbB, Hg, x0, GG⟩ := gr_at (MemW.keep H.out HB.out) k hlt
      have HC := Lib.hid (HQ.out wr HB.out g (List.mem_of_getElem? Hg.out) a1 n1 c1' GG.out)
      cases he : p g with
      | true =>
        have HF : Hid (all.findIdx p = k) := Lib.hid (by
          have hk := (List.getElem?_eq_some_iff.1 Hg.out).1
          have e := (List.getElem?_eq_some_iff.1 Hg.out).2
          exact (List.findIdx_eq hk).2 ⟨by rw [e]; exact he, fun j hj => HN.out j all[j] hj (List.getElem?_eq_getElem (by omega))⟩)
        rw [he] at HC
        clear he
        go_wp2_with fail
        refine HC.out.mono ?_
        rintro e w4 ⟨rfl, hb⟩
        have HB4 := Lib.hid (HB.out.trans (hb.mono HB.out.size))
        clear hb
        go_wp2_with fail
        go_ret
        exact ⟨by rw [HF.out]; rfl, HB4.out⟩
      | false =>
        have HN2 : Hid (∀ j y, j < k + 1 → all[j]? = some y → p y = false) := Lib.hid fun j y hj hy => by
          by_cases e : j = k
          · subst e
            rw [Hg.out] at hy
            rw [← Option.some.inj hy]; exact he
          · exact HN.out j y (by omega) hy
        rw [he] at HC
        clear he
        go_wp2_with fail
        refine HC.out.mono ?_
        rintro e w4 ⟨rfl, hb⟩
        have HB4 := Lib.hid (HB.out.trans (hb.mono HB.out.size))
        clear hb
        go_wp2_with fail
        go_roundw
        case rel => exact ⟨k + 1, by omega, by go_num, HB4, HN2⟩
        case measure => simp [intOf]; omega
    · exfalso
      obtain ⟨y, hy, e⟩ := List.any_eq_true.1 HY.out
      obtain ⟨j, hj, rfl⟩ := List.getElem_of_mem hy
      rw [HN.out j _ (by have := HL.out; omega) (List.getElem?_eq_getElem hj)] at e
      cases e
end Go.Proofs.Ytlhkkkmjoobpcaa
