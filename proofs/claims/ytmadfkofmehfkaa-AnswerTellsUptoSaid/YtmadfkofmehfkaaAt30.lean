/-
  Show of a term: as a text. No condition but how it lies, its numbers, and how long its names are.
-/
import Derived.Test.YtmadfkofmehfkaaAt13
import Derived.Test.YtmadfkofmehfkaaAt29
import Derived.StillTailTactics
import Derived.Test.YtmadfkofmehfkaaAt20
namespace Go.Proofs.Ytmadfkofmehfkaa
open Go.RowKit
attribute [local go_sem] toList_beq

def brkM (is : Bool) (s : ByteArray) : ByteArray := if is then ⟨#[40]⟩ ++ s ++ ⟨#[41]⟩ else s
def digM (n : Int) : ByteArray := ⟨(digs n).toArray⟩
/-- Whether a term stands in brackets as an argument. -/
def tightM (t : Tm) : Bool := decide ((t.kind = 1 ∨ t.kind = 4) ∧ 0 < t.args.length ∨ t.kind = 2 ∧ t.n < 0)
mutual
/-- A term as a text. -/
def showM : Tm → ByteArray
  | .mk k s n ts => if k = 1 then s ++ appM ts else if k = 2 then digM n else if k = 3 then ⟨#[95]⟩ ++ digM n else if k = 4 then ⟨#[60]⟩ ++ (s ++ appM ts) ++ ⟨#[62]⟩ else ⟨#[63]⟩
def appM : List Tm → ByteArray
  | [] => ⟨#[]⟩
  | t :: ts => ⟨#[32]⟩ ++ brkM (tightM t) (showM t) ++ appM ts
end
theorem showM_eq (t : Tm) : showM t = if t.kind = 1 then t.name ++ appM t.args else if t.kind = 2 then digM t.n else if t.kind = 3 then ⟨#[95]⟩ ++ digM t.n else if t.kind = 4 then ⟨#[60]⟩ ++ (t.name ++ appM t.args) ++ ⟨#[62]⟩ else ⟨#[63]⟩ := by
  cases t; rw [showM]; rfl
theorem mk_size (x : UInt8) : (⟨#[x]⟩ : ByteArray).size = 1 := rfl
theorem brkM_size (is : Bool) (s : ByteArray) : (brkM is s).size ≤ s.size + 2 := by
  cases is
  · simp [brkM]
  · unfold brkM; rw [if_pos rfl]; simp only [ByteArray.size_append, mk_size]; omega
theorem digM_size (n : Int) (h : inI64 n) : (digM n).size ≤ 21 := by
  have e : (digM n).size = (digs n).length := by unfold digM; exact List.size_toArray ..
  rw [e]
  unfold inI64 at h
  unfold digs
  split
  · have := dec_len n.natAbs (by omega); simp only [List.length_cons]; omega
  · have := dec_len n.toNat (by omega); omega
theorem appM_snoc (l : List Tm) (x : Tm) : appM (l ++ [x]) = appM l ++ (⟨#[32]⟩ ++ brkM (tightM x) (showM x)) := by
  induction l with
  | nil =>
    rw [List.nil_append, appM, appM]
    show _ ++ ByteArray.empty = ByteArray.empty ++ _
    rw [ByteArray.append_empty, ByteArray.empty_append]
  | cons t l ih => rw [List.cons_append, appM, appM, ih]; simp only [ByteArray.append_assoc]
theorem appM_size (l : List Tm) (h : ∀ x ∈ l, (showM x).size + 3 ≤ 30 * x.wt) : (appM l).size ≤ 30 * Tm.wts l := by
  induction l with
  | nil => rw [appM]; exact Nat.zero_le _
  | cons t l ih =>
    have h1 := h t (List.mem_cons_self ..)
    have h2 := ih fun x hx => h x (List.mem_cons_of_mem _ hx)
    have h3 := brkM_size (tightM t) (showM t)
    rw [appM, Tm.wts_cons]
    simp only [ByteArray.size_append, mk_size]
    omega
theorem Tm.ok_arg {x t : Tm} (h : t.ok) (hx : x ∈ t.args) : x.ok := fun y hy => h y (Tm.args_all x hx y hy)
theorem showM_size_of (m : Nat) : ∀ t, t.size ≤ m → t.ok → (showM t).size + 3 ≤ 30 * t.wt := by
  induction m with
  | zero => intro t h; have := t.size_pos; omega
  | succ m ih =>
    intro t h hok
    have hw := t.wt_eq
    have hd := digM_size t.n (hok t (Tm.mem_all t)).2
    have ha := appM_size t.args fun x hx => ih x (by have := Tm.size_arg hx; omega) (Tm.ok_arg hok hx)
    rw [showM_eq]
    repeat' split
    all_goals (try simp only [ByteArray.size_append, mk_size])
    all_goals omega
theorem showM_size {t : Tm} (h : t.ok) : (showM t).size + 3 ≤ 30 * t.wt := showM_size_of t.size t (Nat.le_refl _) h

/-- What is known of Show at a term. -/
def ShowMAt (x : Tm) : Prop := ∀ (w : World) (a : Option Addr) (n cap : Nat), MemW w (.s 4 (Tm.rows x.args)) (.slice a n cap) →
  Calls Try.prog 54 #[.agg #[.int .i64 x.kind, .string x.name, .int .i64 x.n, .slice a n cap]] w fun e w' => e = .returned (.string (showM x)) ∧ Below w.heap.size w w'

set_option maxRecDepth 100000 in
set_option maxHeartbeats 2000000 in
theorem tight_any {x : Tm} {n cap : Nat} {a : Option Addr} (w : World) (hx : ShowMAt x) (hs : (showM x).size ≤ 100000000) (h : MemW w (.s 4 (Tm.rows x.args)) (.slice a n cap)) :
    Calls Try.prog 73 #[.agg #[.int .i64 x.kind, .string x.name, .int .i64 x.n, .slice a n cap]] w fun e w' => e = .returned (.string (brkM (tightM x) (showM x))) ∧ Below w.heap.size w w' := by
  have hl := (Tms.len h).1
  have HT : Hid (tightM x = decide ((x.kind = 1 ∨ x.kind = 4) ∧ 0 < n ∨ x.kind = 2 ∧ x.n < 0)) := Lib.hid (by unfold tightM; rw [hl])
  have HC := Lib.hid (hx _ a n cap (MemW.alloc h (.cells #[.int .i64 x.kind, .string x.name, .int .i64 x.n, .slice a n cap] 24)))
  have HB0 := Lib.hid (Bo.new w 24 #[.int .i64 x.kind, .string x.name, .int .i64 x.n, .slice a n cap])
  have iz : ((showM x).size : Int) ≤ 1000000000 := by omega
  clear hl hx h hs
  have key : ∀ c : Bool, tightM x = c → Hid (tightM x = c) := fun c h => h
  by_cases k1 : x.kind = 1
  · have e1 : (x.kind == 1) = true := by rw [beq_iff_eq]; exact k1
    have e4 : (x.kind == 4) = false := by rw [k1]; rfl
    have e2 : (x.kind == 2) = false := by rw [k1]; rfl
    by_cases hn : 0 < n
    · have HF := key true (by rw [HT.out]; exact decide_eq_true (.inl ⟨.inl k1, hn⟩))
      have hi : (0 : Int) < n := by omega
      clear k1 hn
      go_enter Try.func73, Try.ntmps73
      go_wp2_with (first | (go_at_call 54 ; refine HC.out.mono ?_; rintro e w2 ⟨rfl, hb⟩; have HB2 := Lib.hid hb; clear hb; obtain ⟨g0, g1, g2, g3⟩ := (HB0.out.keep HB2.out).c4))
      go_ret
      exact ⟨ret_str (by rw [HF.out]; rfl), Below.toA (Below.refl _ _) HB2.out⟩
    · obtain rfl : n = 0 := by omega
      have HF := key false (by rw [HT.out]; exact decide_eq_false (by omega))
      clear k1 hn
      go_enter Try.func73, Try.ntmps73
      go_wp2_with (first | (go_at_call 54 ; refine HC.out.mono ?_; rintro e w2 ⟨rfl, hb⟩; have HB2 := Lib.hid hb; clear hb; obtain ⟨g0, g1, g2, g3⟩ := (HB0.out.keep HB2.out).c4))
      go_ret
      exact ⟨ret_str (by rw [HF.out]; rfl), Below.toA (Below.refl _ _) HB2.out⟩
  · have e1 : (x.kind == 1) = false := by rw [beq_eq_false_iff_ne]; exact k1
    by_cases k4 : x.kind = 4
    · have e4 : (x.kind == 4) = true := by rw [beq_iff_eq]; exact k4
      have e2 : (x.kind == 2) = false := by rw [k4]; rfl
      by_cases hn : 0 < n
      · have HF := key true (by rw [HT.out]; exact decide_eq_true (.inl ⟨.inr k4, hn⟩))
        have hi : (0 : Int) < n := by omega
        clear k1 hn k4
        go_enter Try.func73, Try.ntmps73
        go_wp2_with (first | (go_at_call 54 ; refine HC.out.mono ?_; rintro e w2 ⟨rfl, hb⟩; have HB2 := Lib.hid hb; clear hb; obtain ⟨g0, g1, g2, g3⟩ := (HB0.out.keep HB2.out).c4))
        go_ret
        exact ⟨ret_str (by rw [HF.out]; rfl), Below.toA (Below.refl _ _) HB2.out⟩
      · obtain rfl : n = 0 := by omega
        have HF := key false (by rw [HT.out]; exact decide_eq_false (by omega))
        clear k1 hn k4
        go_enter Try.func73, Try.ntmps73
        go_wp2_with (first | (go_at_call 54 ; refine HC.out.mono ?_; rintro e w2 ⟨rfl, hb⟩; have HB2 := Lib.hid hb; clear hb; obtain ⟨g0, g1, g2, g3⟩ := (HB0.out.keep HB2.out).c4))
        go_ret
        exact ⟨ret_str (by rw [HF.out]; rfl), Below.toA (Below.refl _ _) HB2.out⟩
    · have e4 : (x.kind == 4) = false := by rw [beq_eq_false_iff_ne]; exact k4
      by_cases k2 : x.kind = 2
      · have e2 : (x.kind == 2) = true := by rw [beq_iff_eq]; exact k2
        by_cases hn : x.n < 0
        · have HF := key true (by rw [HT.out]; exact decide_eq_true (.inr ⟨k2, hn⟩))
          clear k1 k2 k4
          go_enter Try.func73, Try.ntmps73
          go_wp2_with (first | (go_at_call 54 ; refine HC.out.mono ?_; rintro e w2 ⟨rfl, hb⟩; have HB2 := Lib.hid hb; clear hb; obtain ⟨g0, g1, g2, g3⟩ := (HB0.out.keep HB2.out).c4))
          go_ret
          exact ⟨ret_str (by rw [HF.out]; rfl), Below.toA (Below.refl _ _) HB2.out⟩
        · have HF := key false (by rw [HT.out]; exact decide_eq_false (by omega))
          clear k1 k2 k4
          go_enter Try.func73, Try.ntmps73
          go_wp2_with (first | (go_at_call 54 ; refine HC.out.mono ?_; rintro e w2 ⟨rfl, hb⟩; have HB2 := Lib.hid hb; clear hb; obtain ⟨g0, g1, g2, g3⟩ := (HB0.out.keep HB2.out).c4))
          go_ret
          exact ⟨ret_str (by rw [HF.out]; rfl), Below.toA (Below.refl _ _) HB2.out⟩
      · have e2 : (x.kind == 2) = false := by rw [beq_eq_false_iff_ne]; exact k2
        have HF := key false (by rw [HT.out]; exact decide_eq_false (by omega))
        clear k1 k2 k4
        go_enter Try.func73, Try.ntmps73
        go_wp2_with (first | (go_at_call 54 ; refine HC.out.mono ?_; rintro e w2 ⟨rfl, hb⟩; have HB2 := Lib.hid hb; clear hb; obtain ⟨g0, g1, g2, g3⟩ := (HB0.out.keep HB2.out).c4))
        go_ret
        exact ⟨ret_str (by rw [HF.out]; rfl), Below.toA (Below.refl _ _) HB2.out⟩

set_option maxRecDepth 100000 in
set_option maxHeartbeats 2000000 in
theorem applied_any {t : Tm} {n cap : Nat} {a : Option Addr} (w : World) (hx : ∀ x ∈ t.args, ShowMAt x) (hok : t.ok) (hw : t.wt ≤ 1048576) (h : MemW w (.s 4 (Tm.rows t.args)) (.slice a n cap)) :
    Calls Try.prog 66 #[.agg #[.int .i64 t.kind, .string t.name, .int .i64 t.n, .slice a n cap]] w fun e w' => e = .returned (.string (t.name ++ appM t.args)) ∧ Below w.heap.size w w' := by
  have hl := Tms.len h
  have HL := Lib.hid hl.1
  have hcap := hl.2.1
  have hmx := hl.2.2
  have H := Lib.hid h
  have HX := Lib.hid hx
  have HS : Hid (∀ k, (t.name ++ appM (t.args.take k)).size ≤ 31457280) := fun k => by
    have h1 := appM_size (t.args.take k) fun x hx => showM_size (Tm.ok_arg hok (List.mem_of_mem_take hx))
    have h2 : Tm.wts (t.args.take k) ≤ Tm.wts t.args := by
      conv => rhs; rw [← List.take_append_drop k t.args, Tm.wts_app]
      omega
    have h3 := t.wt_eq
    rw [ByteArray.size_append]; omega
  have HXS : Hid (∀ x ∈ t.args, (showM x).size ≤ 31457280) := fun x hx => by
    have h1 := showM_size (Tm.ok_arg hok hx)
    have h2 := Tm.wts_mem hx
    have h3 := t.wt_eq
    omega
  clear hl h hx hok hw
  go_enter Try.func66, Try.ntmps66
  go_wp2
  go_loopw [3, 11] (fun v i wr => ∃ k : Nat, k ≤ n ∧ i = .int .i64 k ∧ v = .string (t.name ++ appM (t.args.take k)) ∧ Hid (Below w.heap.size w wr)) (fun _ i _ => n - (intOf i).toNat)
  case atStart => exact ⟨0, Nat.zero_le _, rfl, by rw [List.take_zero, appM]; show _ = Value.string (t.name ++ ByteArray.empty); rw [ByteArray.append_empty], (below_new _ _)⟩
  case round =>
    obtain ⟨k, hk, rfl, rfl, HB⟩ := hrel
    by_cases hlt : k < n
    · obtain ⟨b, o, x, ax, nx, capx, rfl, hbB, Hx, x0, x1, x2, x3, GX⟩ := (Tms.keep H.out HB.out).at k hlt
      have hm := mem_of_at Hx.out
      have hs1 := HXS.out x hm
      have hs2 := HS.out k
      have hs3 := brkM_size (tightM x) (showM x)
      have HT := Lib.hid (fun (w' : World) (h' : MemW w' (.s 4 (Tm.rows x.args)) (.slice ax nx capx)) => tight_any w' (HX.out x hm) (by omega) h')
      have HN := Lib.hid (show t.name ++ appM (t.args.take (k + 1)) = t.name ++ appM (t.args.take k) ++ (⟨#[32]⟩ ++ brkM (tightM x) (showM x)) by rw [take_at Hx.out, appM_snoc, ByteArray.append_assoc])
      clear hm
      generalize hs : t.name ++ appM (t.args.take k) = s at *
      generalize hb' : brkM (tightM x) (showM x) = bx at *
      have iz1 : (s.size : Int) ≤ 1000000000 := by omega
      have iz2 : (bx.size : Int) ≤ 1000000000 := by omega
      clear hs hb' hs1 hs2 hs3
      go_wp2_with (first | (go_at_call 73 ; refine (HT.out _ (MemW.alloc GX.out _)).mono ?_; rintro e w2 ⟨rfl, hb⟩; have HB2 := Lib.hid hb; clear hb))
      go_roundw
      case rel => exact ⟨k + 1, by omega, by go_num, by rw [HN.out], Below.toA HB.out HB2.out⟩
      case measure => simp [intOf]; omega
    · have HF := Lib.hid (show t.args.take k = t.args from List.take_of_length_le (by rw [HL.out]; omega))
      go_wp2
      go_ret
      exact ⟨ret_str (by rw [HF.out]), HB.out⟩

set_option maxRecDepth 100000 in
set_option maxHeartbeats 2000000 in
theorem showM_of {t : Tm} (hx : ∀ x ∈ t.args, ShowMAt x) (hok : t.ok) (hw : t.wt ≤ 1048576) : ShowMAt t := by
  intro w a n cap h
  have hn := (hok t (Tm.mem_all t)).2
  unfold inI64 at hn
  have hsz := showM_size hok
  have HA := Lib.hid (applied_any (t := t) (n := n) (cap := cap) (a := a) _ hx hok hw (MemW.alloc h (.cells #[.int .i64 t.kind, .string t.name, .int .i64 t.n, .slice a n cap] 24)))
  have hds := digM_size t.n (hok t (Tm.mem_all t)).2
  have HD := Lib.hid (fun (w' : World) => Digits_any t.n w' hn.1 hn.2)
  have HE := Lib.hid (showM_eq t)
  have id1 : (((⟨(digs t.n).toArray⟩ : ByteArray)).size : Int) ≤ 1000000000 := by show ((digM t.n).size : Int) ≤ _; omega
  have idl : (digs t.n).length ≤ 21 := by
    have e : (digM t.n).size = (digs t.n).length := by unfold digM; exact List.size_toArray ..
    omega
  have id2 : ((digs t.n).length : Int) ≤ 1000000000 := by omega
  have id3 : ¬ (9223372036854775807 < 1 + (digs t.n).length) := by omega
  by_cases k1 : t.kind = 1
  · have e1 : (t.kind == 1) = true := by rw [beq_iff_eq]; exact k1
    have HF := Lib.hid (HE.out.trans (if_pos k1))
    clear k1 hx hok hw h hsz
    go_enter Try.func54, Try.ntmps54
    go_wp2_with (first | (go_at_call 66 ; refine HA.out.mono ?_; rintro e w2 ⟨rfl, hb⟩; have HB2 := Lib.hid hb; clear hb))
    go_ret
    exact ⟨ret_str HF.out.symm, Below.toA (Below.refl _ _) HB2.out⟩
  have e1 : (t.kind == 1) = false := by rw [beq_eq_false_iff_ne]; exact k1
  by_cases k2 : t.kind = 2
  · have e2 : (t.kind == 2) = true := by rw [beq_iff_eq]; exact k2
    have HF := Lib.hid (HE.out.trans ((if_neg k1).trans (if_pos k2)))
    clear k1 k2 hx hok hw h hsz
    go_enter Try.func54, Try.ntmps54
    go_wp2_with (first | (go_at_call 67 ; refine (HD.out _).mono ?_; rintro e w2 ⟨rfl, hb⟩; have HB2 := Lib.hid hb; clear hb))
    go_ret
    exact ⟨ret_str HF.out.symm, Below.toA (Below.refl _ _) HB2.out⟩
  have e2 : (t.kind == 2) = false := by rw [beq_eq_false_iff_ne]; exact k2
  by_cases k3 : t.kind = 3
  · have e3 : (t.kind == 3) = true := by rw [beq_iff_eq]; exact k3
    have HF := Lib.hid (HE.out.trans ((if_neg k1).trans ((if_neg k2).trans (if_pos k3))))
    clear k1 k2 k3 hx hok hw h hsz
    go_enter Try.func54, Try.ntmps54
    go_wp2_with (first | (go_at_call 67 ; refine (HD.out _).mono ?_; rintro e w2 ⟨rfl, hb⟩; have HB2 := Lib.hid hb; clear hb))
    go_ret
    exact ⟨ret_str HF.out.symm, Below.toA (Below.refl _ _) HB2.out⟩
  have e3 : (t.kind == 3) = false := by rw [beq_eq_false_iff_ne]; exact k3
  by_cases k4 : t.kind = 4
  · have e4 : (t.kind == 4) = true := by rw [beq_iff_eq]; exact k4
    have HF := Lib.hid (HE.out.trans ((if_neg k1).trans ((if_neg k2).trans ((if_neg k3).trans (if_pos k4)))))
    have ia : ((t.name ++ appM t.args).size : Int) ≤ 1000000000 := by
      have h1 := appM_size t.args fun x hx => showM_size (Tm.ok_arg hok hx)
      have h3 := t.wt_eq
      rw [ByteArray.size_append]; omega
    clear k1 k2 k3 k4 hx hok hw h hsz
    generalize t.name ++ appM t.args = s at *
    go_enter Try.func54, Try.ntmps54
    go_wp2_with (first | (go_at_call 66 ; refine HA.out.mono ?_; rintro e w2 ⟨rfl, hb⟩; have HB2 := Lib.hid hb; clear hb))
    go_ret
    exact ⟨ret_str HF.out.symm, Below.toA (Below.refl _ _) HB2.out⟩
  have e4 : (t.kind == 4) = false := by rw [beq_eq_false_iff_ne]; exact k4
  have HF := Lib.hid (HE.out.trans ((if_neg k1).trans ((if_neg k2).trans ((if_neg k3).trans (if_neg k4)))))
  clear k1 k2 k3 k4 hx hok hw h hsz
  go_enter Try.func54, Try.ntmps54
  go_wp2
  go_ret
  exact ⟨ret_str HF.out.symm, below_new _ _⟩
theorem Tm.wt_arg {x t : Tm} (hx : x ∈ t.args) : x.wt ≤ t.wt := by have := Tm.wts_mem hx; have := t.wt_eq; omega
theorem showM_any (m : Nat) : ∀ t : Tm, t.size ≤ m → t.ok → t.wt ≤ 1048576 → ShowMAt t := by
  induction m with
  | zero => intro t h; have := t.size_pos; omega
  | succ m ih => intro t h hok hw; exact showM_of (fun x hx => ih x (by have := Tm.size_arg hx; omega) (Tm.ok_arg hok hx) (Nat.le_trans (Tm.wt_arg hx) hw)) hok hw
theorem showMt {t : Tm} (hok : t.ok) (hw : t.wt ≤ 1048576) : ShowMAt t := showM_any t.size t (Nat.le_refl _) hok hw
end Go.Proofs.Ytmadfkofmehfkaa

/-
  The law's example of chapter 30: answer.Show of one answer. No condition.
-/
namespace Go.Proofs.Ytmadfkofmehfkaa
open Go.RowKit

def zA : Tm := .mk 1 ⟨#[90]⟩ 0 []
def iA : Tm := .mk 2 ⟨#[]⟩ 1 []
theorem zA_ok : zA.ok := by
  intro x hx
  obtain rfl : x = zA := by simpa [zA, Tm.all, Tm.alls] using hx
  unfold inI64; decide
theorem iA_ok : iA.ok := by
  intro x hx
  obtain rfl : x = iA := by simpa [iA, Tm.all, Tm.alls] using hx
  unfold inI64; decide
theorem zA_text : showM zA = ⟨#[90]⟩ := by decide +kernel
theorem iA_text : showM iA = ⟨#[49]⟩ := by decide +kernel
theorem zA_call (w : World) : Calls Try.prog 54 #[.agg #[.int .i64 1, .string ⟨#[90]⟩, .int .i64 0, .slice none 0 0]] w fun e w' => e = .returned (.string ⟨#[90]⟩) ∧ Below w.heap.size w w' := by
  have := showMt zA_ok (by decide) w none 0 0 (by show MemW w (.s 4 (Tm.rows [])) _; rw [Tm.rows]; exact .e _ _ _ (by decide))
  rwa [zA_text] at this
theorem iA_call (w : World) : Calls Try.prog 54 #[.agg #[.int .i64 2, .string ⟨#[]⟩, .int .i64 1, .slice none 0 0]] w fun e w' => e = .returned (.string ⟨#[49]⟩) ∧ Below w.heap.size w w' := by
  have := showMt iA_ok (by decide) w none 0 0 (by show MemW w (.s 4 (Tm.rows [])) _; rw [Tm.rows]; exact .e _ _ _ (by decide))
  rwa [iA_text] at this

def lineA : Nat → ByteArray
  | 0 => ⟨#[]⟩
  | _ + 1 => ⟨#[120, 32, 61, 32, 90, 44, 32]⟩
theorem line_one : ((⟨#[]⟩ : ByteArray) ++ (⟨#[120]⟩ ++ ⟨#[32, 61, 32]⟩ ++ ⟨#[90]⟩ ++ ⟨#[44, 32]⟩)) = lineA 1 := by kernel_rfl
theorem line_two : (lineA 1 ++ ⟨#[49]⟩ : ByteArray) = ⟨#[120, 32, 61, 32, 90, 44, 32, 49]⟩ := by kernel_rfl
set_option maxRecDepth 100000 in
set_option maxHeartbeats 20000000 in
theorem showA_any {qn qb : Nat} (w : World) (hn : w.cell? ⟨qn, 0, none⟩ = some (.string ⟨#[120]⟩)) (hb : Bo w qb 24 #[.int .i64 1, .string ⟨#[90]⟩, .int .i64 0, .slice none 0 0]) :
    Calls Try.prog 29 #[.slice (some ⟨qn, 0, none⟩) 1 1, .agg #[.slice (some ⟨qb, 0, none⟩) 1 1, .int .i64 2, .string ⟨#[]⟩, .int .i64 1, .slice none 0 0]] w fun e w' => e = .returned (.string ⟨#[120, 32, 61, 32, 90, 44, 32, 49]⟩) ∧ Below w.heap.size w w' := by
  have HN := Lib.hid hn
  have HB := Lib.hid hb
  have HW1 := Lib.hid (below_new w (.cells #[.slice (some ⟨qb, 0, none⟩) 1 1, .int .i64 2, .string ⟨#[]⟩, .int .i64 1, .slice none 0 0] 48))
  have HY1 := Lib.hid (Bo.new w 48 #[.slice (some ⟨qb, 0, none⟩) 1 1, .int .i64 2, .string ⟨#[]⟩, .int .i64 1, .slice none 0 0])
  have z0 : (w.alloc (.cells #[.slice (some ⟨qb, 0, none⟩) 1 1, .int .i64 2, .string ⟨#[]⟩, .int .i64 1, .slice none 0 0] 48)).cell? ⟨w.heap.size, 0, none⟩ = some (.slice (some ⟨qb, 0, none⟩) 1 1) := HY1.out.cell (j := 0) rfl
  clear hn hb
  go_enter Try.func29, Try.ntmps29
  go_wp2
  clear z0
  go_loopw [5, 6, 8, 12] (fun v5 _ _ i wr => ∃ k : Nat, k ≤ 1 ∧ i = .int .i64 k ∧ v5 = .string (lineA k) ∧ Hid (Below w.heap.size w wr) ∧ Hid (Bo wr w.heap.size 48 #[.slice (some ⟨qb, 0, none⟩) 1 1, .int .i64 2, .string ⟨#[]⟩, .int .i64 1, .slice none 0 0])) (fun _ _ _ i _ => 1 - (intOf i).toNat)
  case atStart => exact ⟨0, by decide, rfl, rfl, HW1, HY1⟩
  case round =>
    obtain ⟨k, hk, rfl, rfl, HBR, HYR⟩ := hrel
    have y0 := (HB.out.keep HBR.out).c4
    obtain ⟨y0, y1, y2, y3⟩ := y0
    have n0 := cell_below HN.out HBR.out
    have hqn := World.block_lt_of_cell? wr _ n0
    by_cases hk0 : k = 0
    · subst hk0
      have HBZ := Lib.hid (HBR.out.alloc HBR.out.size (.cells #[.int .i64 1, .string ⟨#[90]⟩, .int .i64 0, .slice none 0 0] 24))
      have HYZ := Lib.hid (HYR.out.alloc (.cells #[.int .i64 1, .string ⟨#[90]⟩, .int .i64 0, .slice none 0 0] 24))
      have n1 := cell_below n0 (below_new wr (.cells #[.int .i64 1, .string ⟨#[90]⟩, .int .i64 0, .slice none 0 0] 24))
      have L1 := Lib.hid line_one
      have hl0 : lineA 0 = ⟨#[]⟩ := rfl
      rw [hl0]
      go_wp2_with fail
      refine (zA_call _).mono ?_
      rintro e w4 ⟨rfl, hb⟩
      have HB4 := Lib.hid (HBZ.out.trans (hb.mono HBZ.out.size))
      have HY4 := Lib.hid (HYZ.out.keep hb)
      clear hb n1
      go_wp2_with fail
      go_roundw
      case rel => exact ⟨1, by decide, by go_num, congrArg Value.string L1.out, HB4, HY4⟩
      case measure => simp [intOf]
    · obtain rfl : k = 1 := by omega
      have z1 : wr.cell? ⟨w.heap.size, 1, none⟩ = some (.int .i64 2) := HYR.out.cell (j := 1) rfl
      have z2 : wr.cell? ⟨w.heap.size, 2, none⟩ = some (.string ⟨#[]⟩) := HYR.out.cell (j := 2) rfl
      have z3 : wr.cell? ⟨w.heap.size, 3, none⟩ = some (.int .i64 1) := HYR.out.cell (j := 3) rfl
      have z4 : wr.cell? ⟨w.heap.size, 4, none⟩ = some (.slice none 0 0) := HYR.out.cell (j := 4) rfl
      have hl1 : (lineA 1).size = 7 := rfl
      have L2 := Lib.hid line_two
      generalize lineA 1 = t1 at *
      go_wp2_with fail
      refine (iA_call _).mono ?_
      rintro e w4 ⟨rfl, hb⟩
      have HB4 := Lib.hid (HBR.out.trans (hb.mono HBR.out.size))
      clear hb
      go_wp2_with fail
      go_ret
      exact ⟨congrArg (fun t => Ending.returned (Value.string t)) L2.out, HB4.out⟩

set_option maxRecDepth 100000 in
set_option maxHeartbeats 20000000 in
theorem awake30_any (w : World) : Calls Try.prog 16 #[] w fun e w' => e = .returned (.bool true) ∧ Below w.heap.size w w' := by
  have HB0 := Lib.hid (below_new w (.cells #[.int .i64 1, .string ⟨#[90]⟩, .int .i64 0, .slice none 0 0] 24))
  have HX0 := Lib.hid (Bo.new w 24 #[.int .i64 1, .string ⟨#[90]⟩, .int .i64 0, .slice none 0 0])
  have HB1 := Lib.hid (HB0.out.alloc HB0.out.size (.cells #[.slice (some ⟨w.heap.size, 0, none⟩) 1 1, .int .i64 2, .string ⟨#[]⟩, .int .i64 1, .slice none 0 0] 48))
  have HX1 := Lib.hid (HX0.out.alloc (.cells #[.slice (some ⟨w.heap.size, 0, none⟩) 1 1, .int .i64 2, .string ⟨#[]⟩, .int .i64 1, .slice none 0 0] 48))
  have HB2 := Lib.hid (HB1.out.alloc HB1.out.size (.cells #[.string ⟨#[120]⟩] 9))
  have HX2 := Lib.hid (HX1.out.alloc (.cells #[.string ⟨#[120]⟩] 9))
  have HN2 : Hid ((((w.alloc (.cells #[.int .i64 1, .string ⟨#[90]⟩, .int .i64 0, .slice none 0 0] 24)).alloc (.cells #[.slice (some ⟨w.heap.size, 0, none⟩) 1 1, .int .i64 2, .string ⟨#[]⟩, .int .i64 1, .slice none 0 0] 48)).alloc (.cells #[.string ⟨#[120]⟩] 9)).cell? ⟨w.heap.size + 2, 0, none⟩ = some (.string ⟨#[120]⟩)) := Lib.hid (by
    have := (Bo.new ((w.alloc (.cells #[.int .i64 1, .string ⟨#[90]⟩, .int .i64 0, .slice none 0 0] 24)).alloc (.cells #[.slice (some ⟨w.heap.size, 0, none⟩) 1 1, .int .i64 2, .string ⟨#[]⟩, .int .i64 1, .slice none 0 0] 48)) 9 #[.string ⟨#[120]⟩]).cell (j := 0) (v := .string ⟨#[120]⟩) rfl
    rw [World.size_alloc, World.size_alloc] at this
    exact this)
  have HC := Lib.hid (showA_any _ HN2.out HX2.out)
  go_enter Try.func16, Try.ntmps16
  go_wp2_with fail
  refine HC.out.mono ?_
  rintro e w4 ⟨rfl, hb⟩
  have HB4 := Lib.hid (HB2.out.trans (hb.mono HB2.out.size))
  clear hb
  go_wp2_with fail
  go_ret
  exact ⟨rfl, HB4.out⟩
end Go.Proofs.Ytmadfkofmehfkaa
