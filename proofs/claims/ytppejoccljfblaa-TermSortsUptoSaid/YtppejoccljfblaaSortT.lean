/-
  term.Sort, term.Set: terms in order, and each once. Up to 39 of them; else no condition but how they lie.
-/
import Derived.Test.YtppejoccljfblaaStable
import Derived.Test.YtppejoccljfblaaCloneT
import Derived.Test.YtppejoccljfblaaCompact
namespace Go.Proofs.Ytppejoccljfblaa
open Go.RowKit

set_option maxRecDepth 100000 in
set_option maxHeartbeats 2000000 in
theorem insertion_none {w : World} (a : Option Addr) (cap : Nat) :
    Calls Try.prog 183 #[.slice a 0 cap, .int .i64 0, .int .i64 0, .func (.func 112) #[] #[]] w fun e w' => e = .returned (.tuple #[]) ∧ w = w' := by
  go_enter Try.func183, Try.ntmps183
  go_wp2
  go_loop [8] (fun v => v = .int .i64 1) (fun _ => 0)
  case atStart => rfl
  case round =>
    subst hrel
    go_wp2
    go_end0
    exact ⟨rfl, rfl⟩
set_option maxRecDepth 100000 in
set_option maxHeartbeats 2000000 in
theorem stable_none {w : World} (a : Option Addr) (cap : Nat) :
    Calls Try.prog 161 #[.slice a 0 cap, .int .i64 0, .func (.func 112) #[] #[]] w fun e w' => e = .returned (.tuple #[]) ∧ w = w' := by
  go_enter Try.func161, Try.ntmps161
  go_wp2
  go_loop [7, 8] (fun v v2 => v = .int .i64 0 ∧ v2 = .int .i64 20) (fun _ _ => 0)
  case atStart => exact ⟨rfl, rfl⟩
  case round =>
    obtain ⟨rfl, rfl⟩ := hrel
    go_wp2_with (first | (go_at_call 183 ; refine (insertion_none a cap).mono ?_; rintro e w2 ⟨rfl, rfl⟩))
    go_loop [6] (fun v => v = .int .i64 20) (fun _ => 0)
    case atStart => rfl
    case round =>
      subst hrel
      go_wp2
      go_end0
      exact ⟨rfl, rfl⟩
set_option maxRecDepth 100000 in
set_option maxHeartbeats 2000000 in
theorem sortStable_none {w : World} (a : Option Addr) (cap : Nat) :
    Calls Try.prog 111 #[.slice a 0 cap, .func (.func 112) #[] #[]] w fun e w' => e = .returned (.tuple #[]) ∧ w = w' := by
  go_enter Try.func111, Try.ntmps111
  go_wp2_with (first | (go_at_call 161 ; refine (stable_none a cap).mono ?_; rintro e w2 ⟨rfl, rfl⟩))
  go_end0
  exact ⟨rfl, rfl⟩

/-- A row's first terms, as a slice that is read. -/
theorem ss_mem {w0 w : World} {q o : Nat} {d : Array El} (h : SS w0 q o d w) {k cap : Nat} (hk : k ≤ d.size) (hc : k ≤ cap) (hm : cap ≤ 9223372036854775807) : MemW w (.s 4 (Tm.rows (TL d k))) (.slice (some ⟨q, o, none⟩) k cap) := by
  have hl : (TL d k).length = k := by unfold TL; rw [List.length_map, List.length_take]; simp; omega
  have hat : ∀ i (hi : i < (Tm.rows (TL d k)).length), (Tm.rows (TL d k))[i] = d[i]!.t.row := fun i hi => by
    have hi' : i < k := by rw [Tm.rows_len, hl] at hi; exact hi
    simp only [Tm.rows_eq, List.getElem_map]
    congr 1
    have e : (TL d k)[i]? = some d[i]!.t := by
      unfold TL
      rw [List.getElem?_map, List.getElem?_take_of_lt hi', get_lt (by omega)]; rfl
    exact Option.some.inj ((List.getElem?_eq_getElem _).symm.trans e)
  refine .s q o k cap 4 _ (fun i j => (d[i]!.cells[j]?).getD undef) (by rw [Tm.rows_len, hl]) hc hm h.lt (fun i hi => by rw [hat i hi, Tm.row_eq]; rfl) (fun i j hi hj => ?_) (fun i j hi hj => ?_)
  · rw [(h.row i (by omega) j hj).1, Array.getElem?_eq_getElem (by rw [El.size]; exact hj)]; rfl
  · have hi' : i < k := by rw [Tm.rows_len, hl] at hi; exact hi
    have hr := row_mk d[i]!.t (h.mem (i := i) (by omega) rfl)
    have hrl : (d[i]!.t.row).length = 4 := by rw [Tm.row_eq]; rfl
    have e := hat i hi
    have hj4 : j < 4 := by rw [e, hrl] at hj; exact hj
    have h2 := hr.at j (by rw [hrl]; exact hj4) hj4
    have e2 : (Tm.rows (TL d k))[i][j] = (d[i]!.t.row)[j]'(by rw [hrl]; exact hj4) := by simp only [e]
    rw [e2]
    match j, hj4 with
    | 0, _ => exact h2
    | 1, _ => exact h2
    | 2, _ => exact h2
    | 3, _ => exact h2
theorem perm_all {d d' : Array El} (h : Sort.PermIn 0 d.size d d') : (d'.toList.map (·.t)).Perm (d.toList.map (·.t)) := by
  have h2 := h.2.2
  have e1 : d.extract 0 d.size = d := by simp
  have e2 : d'.extract 0 d.size = d' := by rw [← h.1]; simp
  rw [e1, e2] at h2
  exact h2.map _
/-- Terms in order. -/
def Asc (l : List Tm) : Prop := ∀ i j, i < j → j < l.length → ∀ x y, l[i]? = some x → l[j]? = some y → ¬ cmpT y x < 0
theorem asc_of {d : Array El} (h : Sort.SortedIn ltE 0 d.size d) : Asc (d.toList.map (·.t)) := fun i j hij hj x y hx hy => by
  have hj' : j < d.size := by simpa using hj
  have h1 := h i j (Nat.zero_le _) hij hj'
  rw [List.getElem?_map, get_lt (by omega)] at hx
  rw [List.getElem?_map, get_lt hj'] at hy
  cases hx; cases hy
  exact of_decide_eq_false h1
/-- What is sorted, as it is handed back. -/
structure SortOut (base : Nat) (ts : List Tm) (y : Value) (w : World) : Prop where
  out : (ts = [] ∧ ∃ a c, y = .slice a 0 c ∧ c ≤ 9223372036854775807) ∨ ∃ w1 q cap d, y = .slice (some ⟨q, 0, none⟩) d.size cap ∧ d.size ≤ cap ∧ cap ≤ 9223372036854775807 ∧ base ≤ q ∧ base ≤ w1.heap.size ∧ SS w1 q 0 d w ∧ d.size = ts.length ∧ 0 < d.size ∧ (d.toList.map (·.t)).Perm ts ∧ Asc (d.toList.map (·.t))

set_option maxRecDepth 100000 in
set_option maxHeartbeats 2000000 in
theorem sortT_any {ts : List Tm} {a : Option Addr} {n cap : Nat} (w : World) (h : Tms w ts a n cap) (hn : n < 40) :
    Calls Try.prog 57 #[.slice a n cap] w fun e w' => ∃ y, e = .returned y ∧ SortOut w.heap.size ts y w' ∧ Below w.heap.size w w' := by
  have HC := Lib.hid (cloneT_any w h (by omega))
  obtain rfl := h.len.1
  clear h
  by_cases h0 : ts = []
  · subst h0
    go_enter Try.func57, Try.ntmps57
    go_wp2_with fail
    refine HC.out.mono ?_
    rintro e w1 ⟨y, rfl, ho, hb⟩
    obtain ⟨ya, yc, rfl, _, hyc⟩ := ho.form
    have HB := Lib.hid hb
    clear ho hb
    simp only [Tm.rows, List.length_nil]
    go_wp2_with fail
    refine (sortStable_none ya yc).mono ?_
    rintro e w2 ⟨rfl, rfl⟩
    go_wp2_with fail
    go_ret
    exact ⟨_, rfl, ⟨.inl ⟨rfl, _, _, rfl, hyc⟩⟩, HB.out⟩
  · have hp : 0 < ts.length := by cases ts with | nil => exact absurd rfl h0 | cons t ts => simp
    clear h0
    go_enter Try.func57, Try.ntmps57
    go_wp2_with fail
    refine HC.out.mono ?_
    rintro e w1 ⟨y, rfl, ho, hb⟩
    obtain ⟨q, cp, d, rfl, hcp, hmx, hq, hz, ht, hs⟩ := ownD_ss ho hp
    have HB := Lib.hid hb
    have HS := Lib.hid hs
    have HT := Lib.hid ht
    have HZ := Lib.hid hz
    have hd40 : d.size < 40 := by omega
    have hd0 : 0 < d.size := by omega
    clear ho hb hs ht
    rw [← hz] at hcp ⊢
    clear hz
    go_wp2_with fail
    refine (sortStable_any cp HS.out hd40).mono ?_
    rintro e w2 ⟨rfl, d', hd⟩
    have HD := Lib.hid hd
    have hz2 : d'.size = d.size := hd.perm.1
    clear hd
    go_wp2_with fail
    go_ret
    refine ⟨_, rfl, ⟨.inr ⟨w1, q, cp, d', by rw [hz2]; rfl, by omega, hmx, hq, HB.out.size, HD.out.ss, by rw [hz2, HZ.out], by omega, ?_, ?_⟩⟩, grown_below HB.out HD.out.ss.gr (Nat.le_refl _) (fun k hk => by cases hk; exact hq)⟩
    · rw [← HT.out]; exact perm_all HD.out.perm
    · exact asc_of (by rw [hz2]; exact HD.out.sorted)
set_option maxRecDepth 100000 in
set_option maxHeartbeats 2000000 in
theorem compact_none {w : World} (a : Option Addr) (n cap : Nat) (hn : n < 2) :
    Calls Try.prog 113 #[.slice a n cap, .func (.func 114) #[] #[]] w fun e w' => e = .returned (.slice a n cap) ∧ w = w' := by
  have h2 : (n : Int) < 2 := by omega
  go_enter Try.func113, Try.ntmps113
  go_wp2
  go_ret
  exact ⟨rfl, rfl⟩
/-- Each once, as it is handed back. -/
def SetOut (n : Nat) (ts : List Tm) (w' : World) (y : Value) : Prop := ∃ a k cap l, y = .slice a k cap ∧ k ≤ n ∧ l.Perm ts ∧ Asc l ∧ MemW w' (.s 4 (Tm.rows (cT l))) y
theorem below_two {B : Nat} {w w1 w2 w3 : World} {q : Nat} (hb : Below B w w1) (g1 : w2.grownBy w1 (some q)) (g3 : w2.grownBy w3 (some q)) (hq : B ≤ q) (h2 : B ≤ w2.heap.size) (hs : w.heap.size ≤ w2.heap.size) : Below B w w3 :=
  ⟨g3.os.trans (g1.os.symm.trans hb.os), g3.tape.trans (g1.tape.symm.trans hb.tape), g3.output.trans (g1.output.symm.trans hb.output), Nat.le_trans hs g3.size, fun k hk => by
    have h1 : some k ≠ some q := fun e => by cases e; omega
    rw [g3.block k (by omega) h1, ← g1.block k (by omega) h1]; exact hb.block k hk⟩
set_option maxRecDepth 100000 in
set_option maxHeartbeats 2000000 in
theorem setT_any {ts : List Tm} {a : Option Addr} {n cap : Nat} (w : World) (h : Tms w ts a n cap) (hn : n < 40) :
    Calls Try.prog 59 #[.slice a n cap] w fun e w' => ∃ y, e = .returned y ∧ SetOut n ts w' y ∧ Below w.heap.size w w' := by
  have HC := Lib.hid (sortT_any w h hn)
  obtain rfl := h.len.1
  clear h
  go_enter Try.func59, Try.ntmps59
  go_wp2_with fail
  refine HC.out.mono ?_
  rintro e w1 ⟨y, rfl, ho, hb⟩
  have HB := Lib.hid hb
  clear hb
  rcases ho.out with ⟨rfl, ya, yc, rfl, hyc⟩ | ⟨w2, q, cp, d, rfl, hcp, hmx, hq, hw2, hs, hz, h0, hp, ha⟩
  · clear ho
    go_wp2_with fail
    refine (compact_none ya 0 yc (by omega)).mono ?_
    rintro e w2 ⟨rfl, rfl⟩
    go_wp2_with fail
    go_ret
    exact ⟨_, rfl, ⟨ya, 0, yc, [], rfl, Nat.le_refl _, .nil, fun i j _ hj => absurd hj (Nat.not_lt_zero _), by rw [cT, Tm.rows]; exact .e ya yc 4 hyc⟩, HB.out⟩
  · clear ho
    have HS := Lib.hid hs
    have HP := Lib.hid hp
    have HA := Lib.hid ha
    have HZ := Lib.hid hz
    have hd40 : d.size ≤ 100000 := by omega
    clear hs hp ha hz
    by_cases h1 : d.size < 2
    · go_wp2_with fail
      refine (compact_none _ d.size cp h1).mono ?_
      rintro e w3 ⟨rfl, rfl⟩
      go_wp2_with fail
      go_ret
      refine ⟨_, rfl, ⟨_, _, _, d.toList.map (·.t), rfl, by rw [HZ.out]; exact Nat.le_refl _, HP.out, HA.out, ?_⟩, HB.out⟩
      rw [← TL_all, cT_fresh (Nat.le_refl _) (fun i h1 h2 => by omega)]
      exact ss_mem HS.out (Nat.le_refl _) hcp hmx
    · go_wp2_with fail
      refine (compact_any HS.out (by omega) hd40 hcp hmx).mono ?_
      rintro e w3 ⟨k, d', rfl, hc⟩
      have HCU := Lib.hid hc
      clear hc
      go_wp2_with fail
      go_ret
      refine ⟨_, rfl, ⟨_, _, _, d.toList.map (·.t), rfl, by rw [← HZ.out]; exact HCU.out.le, HP.out, HA.out, ?_⟩, below_two HB.out HS.out.gr HCU.out.ss.gr hq hw2 hw2⟩
      rw [← TL_all, ← HCU.out.tl]
      have := HCU.out.le
      exact ss_mem HCU.out.ss (by rw [HCU.out.size]; exact this) (Nat.le_trans this hcp) hmx
end Go.Proofs.Ytppejoccljfblaa
