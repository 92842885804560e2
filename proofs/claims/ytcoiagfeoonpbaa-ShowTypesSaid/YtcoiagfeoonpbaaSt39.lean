/-
  ShowTypes: it answers true. No condition but sizes.
-/
import Derived.Test.YtcoiagfeoonpbaaSt29
import Derived.Test.YtcoiagfeoonpbaaSt30
import Derived.Test.YtcoiagfeoonpbaaSt38
import Derived.Test.YtcoiagfeoonpbaaSt8
namespace Go.Proofs.Ytcoiagfeoonpbaa
open Go.RowKit
attribute [local go_sem] toList_beq
theorem memW_t0 {base : Nat} {x : At} {y : Value} {w : World} (h : Mem (Nw 0 base w.heap.size) w x y) : MemW w x y := h.mono (fun _ hb => hb.2) fun _ _ => rfl
mutual
def SzTy (M : Nat) : Tm → Prop
  | .mk _ s _ ts => s.size ≤ M ∧ SzTys M ts
def SzTys (M : Nat) : List Tm → Prop
  | [] => True
  | t :: ts => SzTy M t ∧ SzTys M ts
end
theorem szTys_app {M : Nat} {l m : List Tm} (h : SzTys M l) (h' : SzTys M m) : SzTys M (l ++ m) := by
  induction l with
  | nil => exact h'
  | cons t l ih => rw [SzTys] at h; rw [List.cons_append, SzTys]; exact ⟨h.1, ih h.2⟩
theorem szTy_args {M : Nat} {t : Tm} (h : SzTy M t) : SzTys M t.args := by cases t; rw [SzTy] at h; exact h.2
mutual
theorem szTy_all {M : Nat} : ∀ (t : Tm), SzTy M t → ∀ x ∈ t.all, x.name.size ≤ M
  | .mk k s n ts, h, x, hx => by
    rw [SzTy] at h
    rw [Tm.all] at hx
    rcases List.mem_cons.1 hx with rfl | hx
    · exact h.1
    · exact szTys_all ts h.2 x hx
theorem szTys_all {M : Nat} : ∀ (ts : List Tm), SzTys M ts → ∀ x ∈ Tm.alls ts, x.name.size ≤ M
  | [], _, x, hx => by rw [Tm.alls] at hx; cases hx
  | t :: ts, h, x, hx => by
    rw [SzTys] at h
    rw [Tm.alls] at hx
    rcases List.mem_append.1 hx with hx | hx
    · exact szTy_all t h.1 x hx
    · exact szTys_all ts h.2 x hx
end
theorem typeM_sz {ts : List Tk} {M : Nat} (hM : ∀ i, (nowT ts i).s.size ≤ M) : ∀ (f : Nat) (nt : Mt) (deep : Nat) (s : MS) (x : Tm) (s' : MS), typeM ts f nt deep s = some (x, s') → (∀ l, nt = .atoms l → SzTys M l) → SzTy M x := by
  intro f
  induction f with
  | zero => intro nt deep s x s' h; rw [typeM] at h; cases h
  | succ f ih =>
    intro nt deep s x s' h hl
    have hno : ∀ l, Mt.typ = .atoms l → SzTys M l := fun l h => by cases h
    have hno2 : ∀ l, Mt.atom = .atoms l → SzTys M l := fun l h => by cases h
    cases nt with
    | atom =>
      rw [typeM] at h
      split at h
      · cases h; rw [SzTy, SzTys]; exact ⟨hM _, trivial⟩
      · split at h
        · cases h; rw [SzTy, SzTys]; exact ⟨hM _, trivial⟩
        · obtain ⟨p, h1, h2⟩ := Option.map_eq_some_iff.1 h
          obtain ⟨z, sz⟩ := p
          cases h2
          exact ih .typ _ _ _ _ h1 hno
    | typ =>
      rw [typeM] at h
      split at h
      · cases h; rw [noTm, SzTy, SzTys]; exact ⟨Nat.zero_le _, trivial⟩
      · split at h
        · obtain ⟨p, h1, h2⟩ := Option.map_eq_some_iff.1 h
          obtain ⟨z, sz⟩ := p
          cases h2
          have := ih (.atoms []) _ _ _ _ h1 (fun l h => by cases h; rw [SzTys]; trivial)
          rw [SzTy]
          exact ⟨hM _, szTy_args this⟩
        · exact ih .atom _ _ _ _ h hno2
    | atoms l =>
      rw [typeM] at h
      split at h
      · obtain ⟨p, h1, h2⟩ := Option.bind_eq_some_iff.1 h
        obtain ⟨z, sz⟩ := p
        have g := ih .atom _ _ _ _ h1 hno2
        exact ih (.atoms (l ++ [z])) _ _ _ _ h2 (fun m h => by cases h; exact szTys_app (hl l rfl) (by rw [SzTys, SzTys]; exact ⟨g, trivial⟩))
      · cases h
        rw [SzTy]
        exact ⟨Nat.zero_le _, hl l rfl⟩
theorem now_sz {ts : List Tk} {M : Nat} (h : ∀ t ∈ ts, t.s.size ≤ M) (i : Nat) : (nowT ts i).s.size ≤ M := by
  unfold nowT
  split
  · rename_i t ht
    exact h t (List.mem_of_getElem? ht)
  · split <;> exact Nat.zero_le _
theorem typeM_cnt {ts : List Tk} : ∀ (f : Nat) (nt : Mt) (deep : Nat) (s : MS) (x : Tm) (s' : MS), typeM ts f nt deep s = some (x, s') → s.ok = true → s'.ok = true → (match nt with | .atoms l => (Tm.alls x.args).length + s.i ≤ (Tm.alls l).length + s'.i | _ => x.size + s.i ≤ s'.i) := by
  intro f
  induction f with
  | zero => intro nt deep s x s' h; rw [typeM] at h; cases h
  | succ f ih =>
    intro nt deep s x s' h hs hs'
    cases nt with
    | atom =>
      rw [typeM] at h
      split at h
      · cases h
        show Tm.size _ + s.i ≤ s.i + 1
        rw [Tm.size_eq]
        show 1 + (Tm.alls []).length + s.i ≤ _
        rw [Tm.alls]
        simp
        omega
      · split at h
        · cases h
          show Tm.size _ + s.i ≤ s.i + 1
          rw [Tm.size_eq]
          show 1 + (Tm.alls []).length + s.i ≤ _
          rw [Tm.alls]
          simp
          omega
        · obtain ⟨p, h1, h2⟩ := Option.map_eq_some_iff.1 h
          obtain ⟨z, sz⟩ := p
          cases h2
          obtain ⟨k1, k2, k3⟩ := takeS_ok hs'
          have g1 := (typeM_step _ _ _ _ _ _ h1).fwd k1
          obtain ⟨k4, k5, k6⟩ := takeS_ok g1.1
          have hd : ¬ deep = 40 := fun e => by rw [if_pos e, fail_notok] at k4; cases k4
          rw [if_neg hd] at h1 k6
          rw [k6] at h1
          have q : z.size + (s.i + 1) ≤ sz.i := ih .typ _ _ _ _ h1 hs k1
          rw [k3]
          show z.size + s.i ≤ sz.i + 1
          omega
    | typ =>
      rw [typeM, if_neg (by rw [hs]; decide)] at h
      split at h
      · obtain ⟨p, h1, h2⟩ := Option.map_eq_some_iff.1 h
        obtain ⟨z, sz⟩ := p
        cases h2
        have q : (Tm.alls z.args).length + (s.i + 1) ≤ (Tm.alls []).length + sz.i := ih (.atoms []) _ _ _ _ h1 hs hs'
        rw [Tm.alls] at q
        simp at q
        show Tm.size _ + s.i ≤ sz.i
        rw [Tm.size_eq]
        show 1 + (Tm.alls z.args).length + s.i ≤ sz.i
        omega
      · exact ih .atom _ _ _ _ h hs hs'
    | atoms l =>
      rw [typeM] at h
      split at h
      · obtain ⟨p, h1, h2⟩ := Option.bind_eq_some_iff.1 h
        obtain ⟨z, sz⟩ := p
        have g1 := (typeM_step _ _ _ _ _ _ h2).fwd hs'
        have q1 : z.size + s.i ≤ sz.i := ih .atom _ _ _ _ h1 hs g1.1
        have q2 : (Tm.alls x.args).length + sz.i ≤ (Tm.alls (l ++ [z])).length + s'.i := ih (.atoms (l ++ [z])) _ _ _ _ h2 g1.1 hs'
        rw [Tm.alls_app, List.length_append, Tm.alls, Tm.alls, List.append_nil] at q2
        have e : z.size = z.all.length := rfl
        show (Tm.alls x.args).length + s.i ≤ (Tm.alls l).length + s'.i
        omega
      · cases h
        exact Nat.le_refl _
set_option maxRecDepth 100000 in
set_option maxHeartbeats 20000000 in
theorem showTypes_any (ts : List Tk) (aL : Option Addr) (n cap : Nat) (w : World) (hm : MemW w (.s 5 (tkRows ts)) (.slice aL n cap)) (hz : ∀ t ∈ ts, t.s.size ≤ maxLen) :
  Calls Try.prog 6 #[.slice aL n cap] w fun e w' => e = .returned (.bool true) ∧ Below w.heap.size w w' := by
 have hln : ts.length = n := by have h := hm.len.1; rw [tkRows_len] at h; exact h
 have HZ := Lib.hid hz
 have H := Lib.hid hm
 clear hm hz
 have HF : Hid (FarB w.heap.size w.heap.size w w) := Lib.hid (FarB.refl _ _ _)
 go_enter Try.func6, Try.ntmps6
 go_wp2_with (fail)
 refine (awake08_any _).mono ?_
 rintro _ w1 ⟨rfl, hb⟩
 replace HF := kF HF hb
 have hs1 := hb.size
 clear hb
 by_cases hbig : 60 < n
 ·
  have hb3 : ((60 : Int) < (n : Int)) = True := by simp; omega
  go_wp2_with (fail)
  go_ret
  exact ⟨rfl, refBelow HF.out⟩
 have hb3 : ((60 : Int) < (n : Int)) = False := by simp; omega
 obtain ⟨⟨x, s'⟩, hxs⟩ := Option.isSome_iff_exists.1 (typeM_total (ts := ts) (4 * ts.length + 3) .typ 0 ⟨0, none⟩ (by have := leftM_le (ts := ts) ⟨0, none⟩; simp only [wMt2]; omega))
 have HXS := Lib.hid hxs
 clear hxs
 go_wp2_with (fail)
 obtain ⟨i', b'⟩ := s'
 cases b' with
 | none =>
  have HAN := mtype_any (F := 4 * ts.length + 3) (x := x) (s' := ⟨i', none⟩) 0 _ (refTok HF.out H.out) (by omega) HXS.out
  refine HAN.mono ?_
  clear HAN
  rintro _ w2 ⟨ax, mx, cx, rfl, hb, hm⟩
  replace HF := kF HF hb
  have hs2 := hb.size
  clear hb
  have HMx := Lib.hid hm
  clear hm
  simp only [tmV]
  go_upto_region 6 with (fail)
  generalize ee : World.alloc w2 _ = w3_1
  have hq1 := sizeA ee
  replace HF := fA HF ee
  replace HMx := mA HMx ee
  have HBt := nB ee (w2.heap.size)
  clear ee
  generalize ee : World.alloc w3_1 _ = w3
  have hq2 := sizeA ee
  replace HF := fA HF ee
  replace HBt := bA HBt ee
  replace HMx := mA HMx ee
  have HBf := nB ee (w2.heap.size + 1)
  clear ee
  have hsa3 : w3.heap.size = w2.heap.size + 2 := by omega
  clear hq1 hq2
  have tc := kc4 HBt; have fc := kc3 HBf
  have hI := i01_0 w2 w3
  have hZ := i012 w2
  have hdn := typeM_done _ _ _ _ _ _ HXS.out rfl rfl (Nat.zero_le _)
  have hok : OkTy x := hdn.1.1
  have hdep : 2 * depT x + 1 + 0 ≤ i' := hdn.1.2
  have hi2 : i' ≤ ts.length := hdn.2
  have hcnt : x.size + 0 ≤ i' := typeM_cnt _ _ _ _ _ _ HXS.out rfl rfl
  have hszs := szTy_all x (typeM_sz (M := maxLen) (fun i => now_sz HZ.out i) _ _ _ _ _ _ HXS.out (fun l h => by cases h))
  have HOK := Lib.hid hok
  have HSS := Lib.hid hszs
  have hx60 : x.size ≤ 60 := by omega
  have hd29 : depT x ≤ 29 := by omega
  have hi1 : ¬ ((i' : Int) < 1) := by omega
  clear hdn hok hszs hcnt hdep HXS
  go_wp2_with (fail)
  clear tc fc
  refine (all09 (by omega) (HMx.out.mono (fun _ hb => hb.2) fun _ _ => rfl) (Nat.le_refl _)).mono ?_
  rintro _ w4 ⟨g1, l1, c1, rfl, hb, hma⟩
  replace HBt := kB HBt hb
  replace HBf := kB HBf hb
  replace HMx := kM HMx hb
  replace HF := kF HF hb
  have hs4 := hb.size
  clear hb
  have HMa := Lib.hid hma
  clear hma
  have hla : x.all.length = l1 := by have h := HMa.out.len.1; rw [rows_len4] at h; exact h
  have HLA := Lib.hid hla
  have hcap1 := HMa.out.len.2
  clear hla
  replace HMa : Hid (Mem (Nw 0 0 w4.heap.size) w4 (.s 4 (Tm.rows x.all)) (.slice g1 l1 c1)) := Lib.hid (HMa.out.mono (fun b hb => by unfold Nw at hb ⊢; omega) fun _ _ => rfl)
  clear hI hZ
  have tc := kc4 HBt; have fc := kc3 HBf
  have hI := i01_0 w2 w4
  go_wp2_with (fail)
  go_loopw [35] (fun i wr => ∃ k : Nat, k ≤ l1 ∧ i = .int .i64 k ∧ Hid (FarB w.heap.size w.heap.size w wr) ∧ Hid (Mem (Nw 0 (w1.heap.size) wr.heap.size) wr (.s 4 (Tm.rows x.args)) (.slice ax mx cx)) ∧ Hid (Mem (Nw 0 0 wr.heap.size) wr (.s 4 (Tm.rows x.all)) (.slice g1 l1 c1)) ∧ Hid (Bo wr w2.heap.size 39 #[.int .i64 x.kind, .string x.name, .int .i64 x.n, .slice ax mx cx]) ∧ Hid (∀ j y, j < k → x.all[j]? = some y → nameT y = true) ∧ w4.heap.size ≤ wr.heap.size) (fun i _ => l1 - (intOf i).toNat)
  case atStart => exact ⟨0, Nat.zero_le _, rfl, HF, HMx, HMa, HBt, Lib.hid (fun j y h => by omega), Nat.le_refl _⟩
  case round =>
   clear HF HMx HMa HBt HBf
   obtain ⟨k, hk, rfl, HF, HMx, HMa, HBt, HNM, hwb⟩ := hrel
   have tc := kc4 HBt
   have hI := i0_0 w2 wr
   by_cases hlt : k < l1
   ·
    obtain ⟨b, o, u, au, nu, cu, hgb, hbB, Hu, u0, u1, u2, u3, GU⟩ := (show Tms wr x.all g1 l1 c1 from memW_t0 HMa.out).at k hlt
    subst hgb
    have HUZ := Lib.hid (HSS.out u (List.mem_of_getElem? Hu.out))
    go_wp2_with (fail)
    clear tc
    generalize ee : World.alloc wr _ = w5
    have hsa5 := sizeA ee
    replace HF := fA HF ee
    replace HBt := bA HBt ee
    replace HMx := mA HMx ee
    replace HMa := mA HMa ee
    have HBu := nB ee (wr.heap.size)
    clear ee
    clear hI
    have tc := kc4 HBt; have uc := kc4 HBu
    have hI := chain3 w2.heap.size wr.heap.size w5.heap.size
    have hZ := chain3 w2.heap.size wr.heap.size (wr.heap.size + 1)
    clear tc uc
    refine (name08_any u _ _ _ _ HUZ.out).mono ?_
    rintro _ w6 ⟨rfl, hb⟩
    replace HBt := kB HBt hb
    replace HBu := kB HBu hb
    replace HMx := kM HMx hb
    replace HMa := kM HMa hb
    replace HF := kF HF hb
    have hs6 := hb.size
    clear hb
    clear hI hZ
    have tc := kc4 HBt; have uc := kc4 HBu
    have hI := chain3 w2.heap.size wr.heap.size w6.heap.size
    cases hnm : nameT u with
    | false =>
     go_wp2_with (fail)
     clear tc uc
     go_ret
     exact ⟨rfl, refBelow HF.out⟩
    | true =>
     go_wp2_with (fail)
     clear tc uc
     go_roundw
     case rel => exact ⟨k + 1, by omega, by go_num, HF, HMx, HMa, HBt, Lib.hid (fun j v hj hv => by
      by_cases e : j = k
      · subst e; rw [Hu.out] at hv; cases hv; exact hnm
      · exact HNM.out j v (by omega) hv), by omega⟩
     case measure => simp [intOf]; omega
   have hkl : k = l1 := by omega
   subst hkl
   have hnm : NmTy x := nmTy_of x fun v hv => by
    obtain ⟨j, hj, rfl⟩ := List.getElem_of_mem hv
    exact HNM.out j _ (by rw [← HLA.out]; exact hj) (List.getElem?_eq_getElem hj)
   have HNX := Lib.hid hnm
   have hslen := showTB_len x hnm
   have hsl2 : (showTB x).length ≤ 1800 := by omega
   obtain ⟨S, hS⟩ : ∃ S, str (showTB x) = S := ⟨_, rfl⟩
   have hSs : S.size ≤ 1800 := by rw [← hS, str_size]; exact hsl2
   clear hnm hslen
   go_wp2_with (fail)
   clear tc
   refine (showTy_any x _ _ _ _ (memW_t0 HMx.out) (by omega)).mono ?_
   rintro _ w5 ⟨rfl, hb⟩
   replace HBt := kB HBt hb
   replace HMx := kM HMx hb
   replace HMa := kM HMa hb
   replace HF := kF HF hb
   have hs5 := hb.size
   clear hb
   rw [hS]
   clear hI
   have tc := kc4 HBt
   have hI := i0_0 w2 w5
   have hb5 : ¬ ((2000 : Int) < (S.size : Int)) := by omega
   have iq1 : ¬ (9223372036854775807 < 12 + S.size) := by omega
   have iq2 : ¬ (9223372036854775807 < 12 + S.size + 1) := by omega
   obtain ⟨TX, hTX⟩ : ∃ TX, (((⟨#[100, 97, 116, 97, 32, 84, 32, 61, 32, 67, 32, 40]⟩ : ByteArray) ++ S) ++ ⟨#[41]⟩) = TX := ⟨_, rfl⟩
   have hTs : TX.size ≤ 2000 := by
    rw [← hTX, ByteArray.size_append, ByteArray.size_append]
    have q1 : (⟨#[100, 97, 116, 97, 32, 84, 32, 61, 32, 67, 32, 40]⟩ : ByteArray).size = 12 := rfl
    have q2 : (⟨#[41]⟩ : ByteArray).size = 1 := rfl
    omega
   have hTd : TX.data.toList = dataT ++ (showTB x ++ [41]) := by
    rw [← hTX, app_data, app_data, ← hS, List.append_assoc]
    rfl
   obtain ⟨l0, q0, l9, q9, hmod⟩ := showty_back HOK.out HNX.out (by omega) hTd (by omega)
   have HMOD := Lib.hid hmod
   clear hmod hTd hS

   go_wp2_with (fail)
   try rw [hTX]
   clear tc
   refine (mparse_one TX _ (by omega)).mono ?_
   rintro _ w6 ⟨pd, nd, kd, qd, md, ld, rfl, hb, hm, hm2⟩
   replace HBt := kB HBt hb
   replace HMx := kM HMx hb
   replace HMa := kM HMa hb
   replace HF := kF HF hb
   have hs6 := hb.size
   clear hb
   rw [HMOD.out] at hm ⊢
   dsimp only [Md1.k, Md1.l, Md1.c]
   have HMd : Hid (MemW w6 (.s 5 ([(⟨str [84], [], [⟨str [67], [x], l0, q0⟩], l9, q9⟩ : Da)].map Da.row)) (.slice pd nd kd)) := Lib.hid (hm.mono (fun _ hb => hb.2) fun _ _ => rfl)
   clear hm hm2
   clear hI
   have tc := kc4 HBt
   have hI := i0_0 w2 w6
   go_upto_region 18 with (fail)
   replace HMd := Lib.hid (MemW.alloc HMd.out (.cells #[.slice pd nd kd, .slice qd md ld] 52))
   replace HMd := Lib.hid (MemW.alloc HMd.out (.cells #[.int .i64 0, .int .i64 0, .int .i64 0] 30))
   clear tc
   generalize ee : (w6.alloc (.cells #[.slice pd nd kd, .slice qd md ld] 52)) = w7_1 at *
   have hq1 := sizeA ee
   replace HF := fA HF ee
   replace HBt := bA HBt ee
   replace HMx := mA HMx ee
   replace HMa := mA HMa ee
   have HBm := nB ee (w6.heap.size)
   clear ee
   generalize ee : (w7_1.alloc (.cells #[.int .i64 0, .int .i64 0, .int .i64 0] 30)) = w7 at *
   have hq2 := sizeA ee
   replace HF := fA HF ee
   replace HBt := bA HBt ee
   replace HBm := bA HBm ee
   replace HMx := mA HMx ee
   replace HMa := mA HMa ee
   have HBg := nB ee (w6.heap.size + 1)
   clear ee
   have hsa7 : w7.heap.size = w6.heap.size + 2 := by omega
   clear hq1 hq2
   clear hI
   have tc := kc4 HBt; have mc := kc2 HBm; have gc := kc3 HBg
   have hI := chain4 w2.heap.size w6.heap.size (w6.heap.size + 1) w7.heap.size
   have hZ := chain4 w2.heap.size w6.heap.size (w6.heap.size + 1) (w6.heap.size + 2)
   obtain ⟨b1, o1, D, a1, m1, c1', a2, m2, c2, rfl, _, hD, d0, d1, d2, d3, d4, _, hMc⟩ := da_at HMd.out 0 (by simp)
   obtain rfl : (⟨str [84], [], [⟨str [67], [x], l0, q0⟩], l9, q9⟩ : Da) = D := by have h := hD.out; simpa using h
   obtain ⟨b3, o3, C, a4, m4, c4, rfl, _, hC, e0, e1, e2, e3, hMt⟩ := cn_at hMc 0 (by simp)
   obtain rfl : (⟨str [67], [x], l0, q0⟩ : Cn) = C := by have h := hC.out; simpa using h
   obtain ⟨b5, o5, Y, a6, m6, c6, rfl, _, hY, y0, y1, y2, y3, GY⟩ := tm_atT hMt 0 (by simp)
   obtain rfl : x = Y := by have h := hY.out; simpa using h
   have n1 : nd = 1 := by have h := HMd.out.len.1; simpa using h.symm
   have n2 : m2 = 1 := by have h := hMc.len.1; simpa using h.symm
   have n3 : m4 = 1 := by have h := hMt.len.1; simpa [rows_len4] using h.symm
   subst n1
   subst n2
   subst n3
   have GYH := Lib.hid GY
   simp only [Nat.zero_mul, Nat.add_zero] at d2 e1 y0 y1 y2 y3
   have hcd := HMd.out.len.2
   have hcc := hMc.len.2
   have hct := hMt.len.2
   clear hD hC hY hMc hMt GY d0 d1 d3 d4 e0 e2 e3 HMd
   refine wp_region_held_drew (S := fun w' => Far (fun _ => False) (w7) w') (by kernel_rfl) (Far.of (below_drew _)) (fun hS40 => ?_)
   refine takeA 0 (v := ?_) rfl ?_ ?_
   rotate_left
   · (intro w hSw; (try dsimp only at hSw); go_simp; try with_reducible rfl)
   try simp only [Act.put, pu1, pu2, pu3]
   refine takeA 1 (v := ?_) rfl ?_ ?_
   rotate_left
   · (intro w hSw; (try dsimp only at hSw); replace gc := Far.c3z gc hSw (fun e => e); go_simp; try with_reducible rfl)
   try simp only [Act.put, pu1, pu2, pu3]
   refine takeA 2 (v := ?_) rfl ?_ ?_
   rotate_left
   · (intro w hSw; (try dsimp only at hSw); go_simp; try with_reducible rfl)
   try simp only [Act.put, pu1, pu2, pu3]
   refine takeA 3 (v := ?_) rfl ?_ ?_
   rotate_left
   · (intro w hSw; (try dsimp only at hSw); go_simp; try with_reducible rfl)
   try simp only [Act.put, pu1, pu2, pu3]
   refine takeA 4 (v := ?_) rfl ?_ ?_
   rotate_left
   · (intro w hSw; (try dsimp only at hSw); go_simp; try with_reducible rfl)
   try simp only [Act.put, pu1, pu2, pu3]
   refine takeA 5 (v := ?_) rfl ?_ ?_
   rotate_left
   · (intro w hSw; (try dsimp only at hSw); replace mc := Far.c2z mc hSw (fun e => e); go_simp; try with_reducible rfl)
   try simp only [Act.put, pu1, pu2, pu3]
   refine takeA 6 (v := ?_) rfl ?_ ?_
   rotate_left
   · (intro w hSw; (try dsimp only at hSw); go_simp; try with_reducible rfl)
   try simp only [Act.put, pu1, pu2, pu3]
   refine takeA 7 (v := ?_) rfl ?_ ?_
   rotate_left
   · (intro w hSw; (try dsimp only at hSw); go_simp; try with_reducible rfl)
   try simp only [Act.put, pu1, pu2, pu3]
   refine takeA 8 (v := ?_) rfl ?_ ?_
   rotate_left
   · (intro w hSw; (try dsimp only at hSw); go_simp; try with_reducible rfl)
   try simp only [Act.put, pu1, pu2, pu3]
   refine takeA 9 (v := ?_) rfl ?_ ?_
   rotate_left
   · (intro w hSw; (try dsimp only at hSw); go_simp; try with_reducible rfl)
   try simp only [Act.put, pu1, pu2, pu3]
   refine takeA 10 (v := ?_) rfl ?_ ?_
   rotate_left
   · (intro w hSw; (try dsimp only at hSw); go_simp; try with_reducible rfl)
   try simp only [Act.put, pu1, pu2, pu3]
   refine takeA 11 (v := ?_) rfl ?_ ?_
   rotate_left
   · (intro w hSw; (try dsimp only at hSw); replace mc := Far.c2z mc hSw (fun e => e); go_simp; try with_reducible rfl)
   try simp only [Act.put, pu1, pu2, pu3]
   refine takeA 12 (v := ?_) rfl ?_ ?_
   rotate_left
   · (intro w hSw; (try dsimp only at hSw); go_simp; try with_reducible rfl)
   try simp only [Act.put, pu1, pu2, pu3]
   refine takeA 13 (v := ?_) rfl ?_ ?_
   rotate_left
   · (intro w hSw; (try dsimp only at hSw); go_simp; try with_reducible rfl)
   try simp only [Act.put, pu1, pu2, pu3]
   refine takeA 14 (v := ?_) rfl ?_ ?_
   rotate_left
   · (intro w hSw; (try dsimp only at hSw); replace d2 := Far.cellZ d2 hSw (fun e => e); go_simp; try with_reducible rfl)
   try simp only [Act.put, pu1, pu2, pu3]
   refine takeA 15 (v := ?_) rfl ?_ ?_
   rotate_left
   · (intro w hSw; (try dsimp only at hSw); go_simp; try with_reducible rfl)
   try simp only [Act.put, pu1, pu2, pu3]
   refine takeA 16 (v := ?_) rfl ?_ ?_
   rotate_left
   · (intro w hSw; (try dsimp only at hSw); go_simp; try with_reducible rfl)
   try simp only [Act.put, pu1, pu2, pu3]
   refine takeA 17 (v := ?_) rfl ?_ ?_
   rotate_left
   · (intro w hSw; (try dsimp only at hSw); go_simp; try with_reducible rfl)
   try simp only [Act.put, pu1, pu2, pu3]
   refine takeA 18 (v := ?_) rfl ?_ ?_
   rotate_left
   · (intro w hSw; (try dsimp only at hSw); go_simp; try with_reducible rfl)
   try simp only [Act.put, pu1, pu2, pu3]
   refine takeA 19 (v := ?_) rfl ?_ ?_
   rotate_left
   · (intro w hSw; (try dsimp only at hSw); go_simp; try with_reducible rfl)
   try simp only [Act.put, pu1, pu2, pu3]
   refine takeA 20 (v := ?_) rfl ?_ ?_
   rotate_left
   · (intro w hSw; (try dsimp only at hSw); replace mc := Far.c2z mc hSw (fun e => e); go_simp; try with_reducible rfl)
   try simp only [Act.put, pu1, pu2, pu3]
   refine takeA 21 (v := ?_) rfl ?_ ?_
   rotate_left
   · (intro w hSw; (try dsimp only at hSw); go_simp; try with_reducible rfl)
   try simp only [Act.put, pu1, pu2, pu3]
   refine takeA 22 (v := ?_) rfl ?_ ?_
   rotate_left
   · (intro w hSw; (try dsimp only at hSw); go_simp; try with_reducible rfl)
   try simp only [Act.put, pu1, pu2, pu3]
   refine takeA 23 (v := ?_) rfl ?_ ?_
   rotate_left
   · (intro w hSw; (try dsimp only at hSw); replace d2 := Far.cellZ d2 hSw (fun e => e); go_simp; try with_reducible rfl)
   try simp only [Act.put, pu1, pu2, pu3]
   refine takeA 24 (v := ?_) rfl ?_ ?_
   rotate_left
   · (intro w hSw; (try dsimp only at hSw); go_simp; try with_reducible rfl)
   try simp only [Act.put, pu1, pu2, pu3]
   refine takeA 25 (v := ?_) rfl ?_ ?_
   rotate_left
   · (intro w hSw; (try dsimp only at hSw); go_simp; try with_reducible rfl)
   try simp only [Act.put, pu1, pu2, pu3]
   refine takeA 26 (v := ?_) rfl ?_ ?_
   rotate_left
   · (intro w hSw; (try dsimp only at hSw); replace e1 := Far.cellZ e1 hSw (fun e => e); go_simp; try with_reducible rfl)
   try simp only [Act.put, pu1, pu2, pu3]
   refine takeA 27 (v := ?_) rfl ?_ ?_
   rotate_left
   · (intro w hSw; (try dsimp only at hSw); go_simp; try with_reducible rfl)
   try simp only [Act.put, pu1, pu2, pu3]
   refine takeA 28 (v := ?_) rfl ?_ ?_
   rotate_left
   · (intro w hSw; (try dsimp only at hSw); go_simp; try with_reducible rfl)
   try simp only [Act.put, pu1, pu2, pu3]
   refine takeA 29 (v := ?_) rfl ?_ ?_
   rotate_left
   · (intro w hSw; (try dsimp only at hSw); go_simp; try with_reducible rfl)
   try simp only [Act.put, pu1, pu2, pu3]
   refine takeA 30 (v := ?_) rfl ?_ ?_
   rotate_left
   · (intro w hSw; (try dsimp only at hSw); go_simp; try with_reducible rfl)
   try simp only [Act.put, pu1, pu2, pu3]
   refine takeA 31 (v := ?_) rfl ?_ ?_
   rotate_left
   · (intro w hSw; (try dsimp only at hSw); go_simp; try with_reducible rfl)
   try simp only [Act.put, pu1, pu2, pu3]
   refine takeA 32 (v := ?_) rfl ?_ ?_
   rotate_left
   · (intro w hSw; (try dsimp only at hSw); replace mc := Far.c2z mc hSw (fun e => e); go_simp; try with_reducible rfl)
   try simp only [Act.put, pu1, pu2, pu3]
   refine takeA 33 (v := ?_) rfl ?_ ?_
   rotate_left
   · (intro w hSw; (try dsimp only at hSw); go_simp; try with_reducible rfl)
   try simp only [Act.put, pu1, pu2, pu3]
   refine takeA 34 (v := ?_) rfl ?_ ?_
   rotate_left
   · (intro w hSw; (try dsimp only at hSw); go_simp; try with_reducible rfl)
   try simp only [Act.put, pu1, pu2, pu3]
   refine takeA 35 (v := ?_) rfl ?_ ?_
   rotate_left
   · (intro w hSw; (try dsimp only at hSw); replace d2 := Far.cellZ d2 hSw (fun e => e); go_simp; try with_reducible rfl)
   try simp only [Act.put, pu1, pu2, pu3]
   refine takeA 36 (v := ?_) rfl ?_ ?_
   rotate_left
   · (intro w hSw; (try dsimp only at hSw); go_simp; try with_reducible rfl)
   try simp only [Act.put, pu1, pu2, pu3]
   refine takeA 37 (v := ?_) rfl ?_ ?_
   rotate_left
   · (intro w hSw; (try dsimp only at hSw); go_simp; try with_reducible rfl)
   try simp only [Act.put, pu1, pu2, pu3]
   refine takeA 38 (v := ?_) rfl ?_ ?_
   rotate_left
   · (intro w hSw; (try dsimp only at hSw); replace e1 := Far.cellZ e1 hSw (fun e => e); go_simp; try with_reducible rfl)
   try simp only [Act.put, pu1, pu2, pu3]
   refine takeA 39 (v := ?_) rfl ?_ ?_
   rotate_left
   · (intro w hSw; (try dsimp only at hSw); go_simp; try with_reducible rfl)
   try simp only [Act.put, pu1, pu2, pu3]
   refine takeA 40 (v := ?_) rfl ?_ ?_
   rotate_left
   · (intro w hSw; (try dsimp only at hSw); replace y0 := Far.cellZ y0 hSw (fun e => e); replace y1 := Far.cellZ y1 hSw (fun e => e); replace y2 := Far.cellZ y2 hSw (fun e => e); replace y3 := Far.cellZ y3 hSw (fun e => e); go_simp; try with_reducible rfl)
   try simp only [Act.put, pu1, pu2, pu3]
   refine takeA 41 (v := ?_) rfl ?_ ?_
   rotate_left
   · (intro w hSw; (try dsimp only at hSw); replace tc := Far.c4z tc hSw (fun e => e); go_simp; try with_reducible rfl)
   try simp only [Act.put, pu1, pu2, pu3]

   have HS9 := Lib.hid (sameD_any x x _ _ _ _ _ _ _ (MemW.keep GYH.out (below_drew w7)) (MemW.keep (w := w7) (memW_t0 HMx.out) (below_drew _)))
   refine callA 42 rfl fun K hK => ?_
   go_simp
   refine (HS9.out).mono ?_
   rintro e wx41 ⟨rfl, hb⟩
   clear tc mc gc
   clear hI hZ
   have hbk := hb
   replace hb := Below.one hb
   replace HBt := kB HBt hb
   replace HBm := kB HBm hb
   replace HBg := kB HBg hb
   replace HMx := kM HMx hb
   replace HMa := kM HMa hb
   replace HF := kF HF hb
   have hs41 := hb.size
   clear hb
   rw [show dT x x = true from decide_eq_true rfl]
   go_simp
   refine hK.out _ _ ?_ (fun hS41 => ?_)
   · exact Far.trans hS40 (Far.of hbk)
   clear hK K

   refine takeA 43 (v := ?_) rfl ?_ ?_
   rotate_left
   · (intro w hSw; (try dsimp only at hSw); go_simp; try with_reducible rfl)
   try simp only [Act.put, pu1, pu2, pu3]
   refine takeA 44 (v := ?_) rfl ?_ ?_
   rotate_left
   · (intro w hSw; (try dsimp only at hSw); go_simp; try with_reducible rfl)
   try simp only [Act.put, pu1, pu2, pu3]
   refine wpAnyH_done (by kernel_rfl) ?_ _

   go_wp2_with (fail)
   go_ret
   exact ⟨rfl, refBelow HF.out⟩
 | some p =>
  have HAN := mtype_any (F := 4 * ts.length + 3) (x := x) (s' := ⟨i', some p⟩) 0 _ (refTok HF.out H.out) (by omega) HXS.out
  refine HAN.mono ?_
  clear HAN
  rintro _ w2 ⟨rfl, hb⟩
  replace HF := kF HF hb
  have hs2 := hb.size
  clear hb
  go_upto_region 6 with (fail)
  generalize ee : World.alloc w2 _ = w3_1
  have hq1 := sizeA ee
  replace HF := fA HF ee
  have HBt := nB ee (w2.heap.size)
  clear ee
  generalize ee : World.alloc w3_1 _ = w3
  have hq2 := sizeA ee
  replace HF := fA HF ee
  replace HBt := bA HBt ee
  have HBf := nB ee (w2.heap.size + 1)
  clear ee
  have hsa3 : w3.heap.size = w2.heap.size + 2 := by omega
  clear hq1 hq2
  have tc := kc4 HBt; have fc := kc3 HBf
  have hI := i01_0 w2 w3
  have hZ := i012 w2
  go_wp2_with (fail)
  clear tc fc
  go_ret
  exact ⟨rfl, refBelow HF.out⟩
end Go.Proofs.Ytcoiagfeoonpbaa
