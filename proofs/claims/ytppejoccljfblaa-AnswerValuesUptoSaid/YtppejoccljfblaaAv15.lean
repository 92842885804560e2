/-
  term.Sort, term.Set: terms in order, and each once. Up to 39 of them; else no condition but how they lie.
-/
import Derived.Test.YtppejoccljfblaaAv14
import Derived.Test.YtppejoccljfblaaAv11
import Derived.Test.YtppejoccljfblaaAv10
import Derived.Laws.MakeOwn
import Derived.Test.YtppejoccljfblaaAv2
import Derived.Maps.OwnOps
import Derived.Maps.Views
namespace Go.Proofs.Ytppejoccljfblaa
open Go.RowKit

set_option maxRecDepth 100000 in
set_option maxHeartbeats 2000000 in
theorem insertion_none {w : World} (a : Option Addr) (cap : Nat) :
    Calls Try.prog 183 #[.slice a 0 cap, .int .i64 0, .int .i64 0, .func (.func 112) #[] #[]] w fun e w' => e = .returned (.tuple #[]) ∧ w = w' := by
  go_enter Try.func183, Try.ntmps183
  go_wp2
  go_loop [8] (fun v => v = .int .i64 1) (fun _ => 0)
  case atStart => rfl
  case round =>
    subst hrel
    go_wp2
    go_end0
    exact ⟨rfl, rfl⟩
set_option maxRecDepth 100000 in
set_option maxHeartbeats 2000000 in
theorem stable_none {w : World} (a : Option Addr) (cap : Nat) :
    Calls Try.prog 161 #[.slice a 0 cap, .int .i64 0, .func (.func 112) #[] #[]] w fun e w' => e = .returned (.tuple #[]) ∧ w = w' := by
  go_enter Try.func161, Try.ntmps161
  go_wp2
  go_loop [7, 8] (fun v v2 => v = .int .i64 0 ∧ v2 = .int .i64 20) (fun _ _ => 0)
  case atStart => exact ⟨rfl, rfl⟩
  case round =>
    obtain ⟨rfl, rfl⟩ := hrel
    go_wp2_with (first | (go_at_call 183 ; refine (insertion_none a cap).mono ?_; rintro e w2 ⟨rfl, rfl⟩))
    go_loop [6] (fun v => v = .int .i64 20) (fun _ => 0)
    case atStart => rfl
    case round =>
      subst hrel
      go_wp2
      go_end0
      exact ⟨rfl, rfl⟩
set_option maxRecDepth 100000 in
set_option maxHeartbeats 2000000 in
theorem sortStable_none {w : World} (a : Option Addr) (cap : Nat) :
    Calls Try.prog 111 #[.slice a 0 cap, .func (.func 112) #[] #[]] w fun e w' => e = .returned (.tuple #[]) ∧ w = w' := by
  go_enter Try.func111, Try.ntmps111
  go_wp2_with (first | (go_at_call 161 ; refine (stable_none a cap).mono ?_; rintro e w2 ⟨rfl, rfl⟩))
  go_end0
  exact ⟨rfl, rfl⟩

/-- A row's first terms, as a slice that is read. -/
theorem ss_mem {w0 w : World} {q o : Nat} {d : Array El} (h : SS w0 q o d w) {k cap : Nat} (hk : k ≤ d.size) (hc : k ≤ cap) (hm : cap ≤ 9223372036854775807) : MemW w (.s 4 (Tm.rows (TL d k))) (.slice (some ⟨q, o, none⟩) k cap) := by
  have hl : (TL d k).length = k := by unfold TL; rw [List.length_map, List.length_take]; simp; omega
  have hat : ∀ i (hi : i < (Tm.rows (TL d k)).length), (Tm.rows (TL d k))[i] = d[i]!.t.row := fun i hi => by
    have hi' : i < k := by rw [Tm.rows_len, hl] at hi; exact hi
    simp only [Tm.rows_eq, List.getElem_map]
    congr 1
    have e : (TL d k)[i]? = some d[i]!.t := by
      unfold TL
      rw [List.getElem?_map, List.getElem?_take_of_lt hi', get_lt (by omega)]; rfl
    exact Option.some.inj ((List.getElem?_eq_getElem _).symm.trans e)
  refine .s q o k cap 4 _ (fun i j => (d[i]!.cells[j]?).getD undef) (by rw [Tm.rows_len, hl]) hc hm h.lt (fun i hi => by rw [hat i hi, Tm.row_eq]; rfl) (fun i j hi hj => ?_) (fun i j hi hj => ?_)
  · rw [(h.row i (by omega) j hj).1, Array.getElem?_eq_getElem (by rw [El.size]; exact hj)]; rfl
  · have hi' : i < k := by rw [Tm.rows_len, hl] at hi; exact hi
    have hr := row_mk d[i]!.t (h.mem (i := i) (by omega) rfl)
    have hrl : (d[i]!.t.row).length = 4 := by rw [Tm.row_eq]; rfl
    have e := hat i hi
    have hj4 : j < 4 := by rw [e, hrl] at hj; exact hj
    have h2 := hr.at j (by rw [hrl]; exact hj4) hj4
    have e2 : (Tm.rows (TL d k))[i][j] = (d[i]!.t.row)[j]'(by rw [hrl]; exact hj4) := by simp only [e]
    rw [e2]
    match j, hj4 with
    | 0, _ => exact h2
    | 1, _ => exact h2
    | 2, _ => exact h2
    | 3, _ => exact h2
theorem perm_all {d d' : Array El} (h : Sort.PermIn 0 d.size d d') : (d'.toList.map (·.t)).Perm (d.toList.map (·.t)) := by
  have h2 := h.2.2
  have e1 : d.extract 0 d.size = d := by simp
  have e2 : d'.extract 0 d.size = d' := by rw [← h.1]; simp
  rw [e1, e2] at h2
  exact h2.map _
/-- Terms in order. -/
def Asc (l : List Tm) : Prop := ∀ i j, i < j → j < l.length → ∀ x y, l[i]? = some x → l[j]? = some y → ¬ cmpT y x < 0
theorem asc_of {d : Array El} (h : Sort.SortedIn ltE 0 d.size d) : Asc (d.toList.map (·.t)) := fun i j hij hj x y hx hy => by
  have hj' : j < d.size := by simpa using hj
  have h1 := h i j (Nat.zero_le _) hij hj'
  rw [List.getElem?_map, get_lt (by omega)] at hx
  rw [List.getElem?_map, get_lt hj'] at hy
  cases hx; cases hy
  exact of_decide_eq_false h1
/-- What is sorted, as it is handed back. -/
structure SortOut (base : Nat) (ts : List Tm) (y : Value) (w : World) : Prop where
  out : (ts = [] ∧ ∃ a c, y = .slice a 0 c ∧ c ≤ 9223372036854775807) ∨ ∃ w1 q cap d, y = .slice (some ⟨q, 0, none⟩) d.size cap ∧ d.size ≤ cap ∧ cap ≤ 9223372036854775807 ∧ base ≤ q ∧ base ≤ w1.heap.size ∧ SS w1 q 0 d w ∧ d.size = ts.length ∧ 0 < d.size ∧ (d.toList.map (·.t)).Perm ts ∧ Asc (d.toList.map (·.t))

set_option maxRecDepth 100000 in
set_option maxHeartbeats 2000000 in
theorem sortT_any {ts : List Tm} {a : Option Addr} {n cap : Nat} (w : World) (h : Tms w ts a n cap) (hn : n < 40) :
    Calls Try.prog 57 #[.slice a n cap] w fun e w' => ∃ y, e = .returned y ∧ SortOut w.heap.size ts y w' ∧ Below w.heap.size w w' := by
  have HC := Lib.hid (cloneT_any w h (by omega))
  obtain rfl := h.len.1
  clear h
  by_cases h0 : ts = []
  · subst h0
    go_enter Try.func57, Try.ntmps57
    go_wp2_with fail
    refine HC.out.mono ?_
    rintro e w1 ⟨y, rfl, ho, hb⟩
    obtain ⟨ya, yc, rfl, _, hyc⟩ := ho.form
    have HB := Lib.hid hb
    clear ho hb
    simp only [Tm.rows, List.length_nil]
    go_wp2_with fail
    refine (sortStable_none ya yc).mono ?_
    rintro e w2 ⟨rfl, rfl⟩
    go_wp2_with fail
    go_ret
    exact ⟨_, rfl, ⟨.inl ⟨rfl, _, _, rfl, hyc⟩⟩, HB.out⟩
  · have hp : 0 < ts.length := by cases ts with | nil => exact absurd rfl h0 | cons t ts => simp
    clear h0
    go_enter Try.func57, Try.ntmps57
    go_wp2_with fail
    refine HC.out.mono ?_
    rintro e w1 ⟨y, rfl, ho, hb⟩
    obtain ⟨q, cp, d, rfl, hcp, hmx, hq, hz, ht, hs⟩ := ownD_ss ho hp
    have HB := Lib.hid hb
    have HS := Lib.hid hs
    have HT := Lib.hid ht
    have HZ := Lib.hid hz
    have hd40 : d.size < 40 := by omega
    have hd0 : 0 < d.size := by omega
    clear ho hb hs ht
    rw [← hz] at hcp ⊢
    clear hz
    go_wp2_with fail
    refine (sortStable_any cp HS.out hd40).mono ?_
    rintro e w2 ⟨rfl, d', hd⟩
    have HD := Lib.hid hd
    have hz2 : d'.size = d.size := hd.perm.1
    clear hd
    go_wp2_with fail
    go_ret
    refine ⟨_, rfl, ⟨.inr ⟨w1, q, cp, d', by rw [hz2]; rfl, by omega, hmx, hq, HB.out.size, HD.out.ss, by rw [hz2, HZ.out], by omega, ?_, ?_⟩⟩, grown_below HB.out HD.out.ss.gr (Nat.le_refl _) (fun k hk => by cases hk; exact hq)⟩
    · rw [← HT.out]; exact perm_all HD.out.perm
    · exact asc_of (by rw [hz2]; exact HD.out.sorted)
set_option maxRecDepth 100000 in
set_option maxHeartbeats 2000000 in
theorem compact_none {w : World} (a : Option Addr) (n cap : Nat) (hn : n < 2) :
    Calls Try.prog 113 #[.slice a n cap, .func (.func 114) #[] #[]] w fun e w' => e = .returned (.slice a n cap) ∧ w = w' := by
  have h2 : (n : Int) < 2 := by omega
  go_enter Try.func113, Try.ntmps113
  go_wp2
  go_ret
  exact ⟨rfl, rfl⟩
/-- Each once, as it is handed back. -/
def SetOut (n : Nat) (ts : List Tm) (w' : World) (y : Value) : Prop := ∃ a k cap l, y = .slice a k cap ∧ k ≤ n ∧ l.Perm ts ∧ Asc l ∧ MemW w' (.s 4 (Tm.rows (cT l))) y
theorem below_two {B : Nat} {w w1 w2 w3 : World} {q : Nat} (hb : Below B w w1) (g1 : w2.grownBy w1 (some q)) (g3 : w2.grownBy w3 (some q)) (hq : B ≤ q) (h2 : B ≤ w2.heap.size) (hs : w.heap.size ≤ w2.heap.size) : Below B w w3 :=
  ⟨g3.os.trans (g1.os.symm.trans hb.os), g3.tape.trans (g1.tape.symm.trans hb.tape), g3.output.trans (g1.output.symm.trans hb.output), Nat.le_trans hs g3.size, fun k hk => by
    have h1 : some k ≠ some q := fun e => by cases e; omega
    rw [g3.block k (by omega) h1, ← g1.block k (by omega) h1]; exact hb.block k hk⟩
set_option maxRecDepth 100000 in
set_option maxHeartbeats 2000000 in
theorem setT_any {ts : List Tm} {a : Option Addr} {n cap : Nat} (w : World) (h : Tms w ts a n cap) (hn : n < 40) :
    Calls Try.prog 59 #[.slice a n cap] w fun e w' => ∃ y, e = .returned y ∧ SetOut n ts w' y ∧ Below w.heap.size w w' := by
  have HC := Lib.hid (sortT_any w h hn)
  obtain rfl := h.len.1
  clear h
  go_enter Try.func59, Try.ntmps59
  go_wp2_with fail
  refine HC.out.mono ?_
  rintro e w1 ⟨y, rfl, ho, hb⟩
  have HB := Lib.hid hb
  clear hb
  rcases ho.out with ⟨rfl, ya, yc, rfl, hyc⟩ | ⟨w2, q, cp, d, rfl, hcp, hmx, hq, hw2, hs, hz, h0, hp, ha⟩
  · clear ho
    go_wp2_with fail
    refine (compact_none ya 0 yc (by omega)).mono ?_
    rintro e w2 ⟨rfl, rfl⟩
    go_wp2_with fail
    go_ret
    exact ⟨_, rfl, ⟨ya, 0, yc, [], rfl, Nat.le_refl _, .nil, fun i j _ hj => absurd hj (Nat.not_lt_zero _), by rw [cT, Tm.rows]; exact .e ya yc 4 hyc⟩, HB.out⟩
  · clear ho
    have HS := Lib.hid hs
    have HP := Lib.hid hp
    have HA := Lib.hid ha
    have HZ := Lib.hid hz
    have hd40 : d.size ≤ 100000 := by omega
    clear hs hp ha hz
    by_cases h1 : d.size < 2
    · go_wp2_with fail
      refine (compact_none _ d.size cp h1).mono ?_
      rintro e w3 ⟨rfl, rfl⟩
      go_wp2_with fail
      go_ret
      refine ⟨_, rfl, ⟨_, _, _, d.toList.map (·.t), rfl, by rw [HZ.out]; exact Nat.le_refl _, HP.out, HA.out, ?_⟩, HB.out⟩
      rw [← TL_all, cT_fresh (Nat.le_refl _) (fun i h1 h2 => by omega)]
      exact ss_mem HS.out (Nat.le_refl _) hcp hmx
    · go_wp2_with fail
      refine (compact_any HS.out (by omega) hd40 hcp hmx).mono ?_
      rintro e w3 ⟨k, d', rfl, hc⟩
      have HCU := Lib.hid hc
      clear hc
      go_wp2_with fail
      go_ret
      refine ⟨_, rfl, ⟨_, _, _, d.toList.map (·.t), rfl, by rw [← HZ.out]; exact HCU.out.le, HP.out, HA.out, ?_⟩, below_two HB.out HS.out.gr HCU.out.ss.gr hq hw2 hw2⟩
      rw [← TL_all, ← HCU.out.tl]
      have := HCU.out.le
      exact ss_mem HCU.out.ss (by rw [HCU.out.size]; exact this) (Nat.le_trans this hcp) hmx
end Go.Proofs.Ytppejoccljfblaa

/-
  A row of terms that a call makes and fills, element by element. Plain lemmas. No condition.
-/
namespace Go.Proofs.Ytppejoccljfblaa
open Go.RowKit

/-- While the row is filled: its block is the call's own; what its elements lead to is new too, and lies beside it. -/
structure RR (base q : Nat) (d : Array El) (w : World) : Prop where
  hb : base ≤ q
  hq : q < w.heap.size
  row : Row w q 0 d
  ok : ∀ i, i < d.size → Mem (fun b => Nw 0 base w.heap.size b ∧ b ≠ q) w (.s 4 (Tm.rows d[i]!.t.args)) (.slice d[i]!.a d[i]!.n d[i]!.cap)
section
variable {w w' : World} {base q : Nat} {d : Array El}
theorem RR.keep (h : RR base q d w) (hb : Below w.heap.size w w') : RR base q d w' :=
  ⟨h.hb, Nat.lt_of_lt_of_le h.hq hb.size, h.row.keep h.hq hb, fun i hi => (h.ok i hi).mono (fun _ hb' => ⟨⟨hb'.1.1, Nat.lt_of_lt_of_le hb'.1.2 hb.size⟩, hb'.2⟩) fun b hb' => hb.block b hb'.1.2⟩
theorem RR.alloc (h : RR base q d w) (o : Obj) : RR base q d (w.alloc o) := h.keep (below_new w o)
theorem RR.put (h : RR base q d w) {i : Nat} (hi : i < d.size) (e : El) (he : Mem (fun b => Nw 0 base w.heap.size b ∧ b ≠ q) w (.s 4 (Tm.rows e.t.args)) (.slice e.a e.n e.cap)) : RR base q (d.setIfInBounds i e) (w.setCells q (0 + i * 4) e.cells.toList) := by
  have hg := grownBy_setCells w q e.cells.toList (0 + i * 4)
  have hs := size_setCells' w q e.cells.toList (0 + i * 4)
  refine ⟨h.hb, by rw [hs]; exact h.hq, h.row.set hi e, fun k hk => ?_⟩
  rw [Array.size_setIfInBounds] at hk
  have hm : Mem (fun b => Nw 0 base w.heap.size b ∧ b ≠ q) w (.s 4 (Tm.rows (d.setIfInBounds i e)[k]!.t.args)) (.slice (d.setIfInBounds i e)[k]!.a (d.setIfInBounds i e)[k]!.n (d.setIfInBounds i e)[k]!.cap) := by
    by_cases hki : k = i
    · subst hki
      have e1 : (d.setIfInBounds k e)[k]! = e := by simp [hk]
      rw [e1]; exact he
    · have e1 : (d.setIfInBounds i e)[k]! = d[k]! := by simp [hk, Ne.symm hki]
      rw [e1]; exact h.ok k hk
  exact hm.mono (fun b hb => ⟨by rw [hs]; exact hb.1, hb.2⟩) fun b hb => hg.block b hb.1.2 (fun e => hb.2 (by cases e; rfl))
theorem RR.far (h : RR base q d w) (g j : Nat) (v : Value) (hg : g < base) : RR base q d (w.setCell ⟨g, j, none⟩ v) := by
  have hs : (w.setCell ⟨g, j, none⟩ v).heap.size = w.heap.size := by simp [World.setCell]
  have hbl : ∀ b, b ≠ g → (w.setCell ⟨g, j, none⟩ v).heap[b]? = w.heap[b]? := fun b hb => heap_setCell_other w ⟨g, j, none⟩ b v hb
  have hbase := h.hb
  have hqg : (w.setCell ⟨g, j, none⟩ v).heap[q]? = w.heap[q]? := hbl q (by omega)
  refine ⟨h.hb, by rw [hs]; exact h.hq, fun i hi k hk => ?_, fun i hi => (h.ok i hi).mono (fun b hb => ⟨by rw [hs]; exact hb.1, hb.2⟩) fun b hb => hbl b (by have := hb.1.1; omega)⟩
  obtain ⟨h1, h2⟩ := h.row i hi k hk
  exact ⟨(by rw [← h1]; simp only [World.cell?, hqg]), by rw [← h2]; simp only [World.frozen?, hqg]⟩
theorem RR.rowFar (h : RR base q d w) (g : Nat) (cs : Array Value) (hg : g < base) : RR base q d (w.setRow g cs) := by
  have hbase := h.hb
  have hqg : (w.setRow g cs).heap[q]? = w.heap[q]? := setRow_other w g q cs (by omega)
  refine ⟨h.hb, by rw [size_setRow]; exact h.hq, fun i hi k hk => ?_, fun i hi => (h.ok i hi).mono (fun b hb => ⟨by rw [size_setRow]; exact hb.1, hb.2⟩) fun b hb => setRow_other w g b cs (by have := hb.1.1; omega)⟩
  obtain ⟨h1, h2⟩ := h.row i hi k hk
  exact ⟨(by rw [← h1]; simp only [World.cell?, hqg]), by rw [← h2]; simp only [World.frozen?, hqg]⟩
theorem RR.memT (h : RR base q d w) (hm : d.size ≤ 9223372036854775807) {ts : List Tm} (hts : d.toList.map (·.t) = ts) : Mem (Nw 0 base w.heap.size) w (.s 4 (Tm.rows ts)) (.slice (some ⟨q, 0, none⟩) d.size d.size) := by
  subst hts
  have hat : ∀ i (hi : i < (Tm.rows (d.toList.map (·.t))).length), (Tm.rows (d.toList.map (·.t)))[i] = d[i]!.t.row := fun i hi => by
    have hi' : i < d.size := by rw [Tm.rows_len, List.length_map] at hi; simpa using hi
    simp only [Tm.rows_eq, List.getElem_map]
    congr 1
    simp [hi']
  refine .s q 0 d.size d.size 4 _ (fun i j => (d[i]!.cells[j]?).getD undef) (by rw [Tm.rows_len, List.length_map]; simp) (Nat.le_refl _) hm ⟨.inr h.hb, h.hq⟩ (fun i hi => by rw [hat i hi, Tm.row_eq]; rfl) (fun i j hi hj => ?_) (fun i j hi hj => ?_)
  · rw [(h.row i (by omega) j hj).1, Array.getElem?_eq_getElem (by rw [El.size]; exact hj)]; rfl
  · have hi' : i < d.size := by rw [Tm.rows_len, List.length_map] at hi; simpa using hi
    have hr := row_mk d[i]!.t ((h.ok i hi').mono (fun b hb => hb.1) fun _ _ => rfl)
    have hrl : (d[i]!.t.row).length = 4 := by rw [Tm.row_eq]; rfl
    have e := hat i hi
    have hj4 : j < 4 := by rw [e, hrl] at hj; exact hj
    have h2 := hr.at j (by rw [hrl]; exact hj4) hj4
    have e2 : (Tm.rows (d.toList.map (·.t)))[i][j] = (d[i]!.t.row)[j]'(by rw [hrl]; exact hj4) := by simp only [e]
    rw [e2]
    have h3 : ∀ j (hj4 : j < 4), (d[i]!.cells[j]?).getD undef = [Value.int .i64 d[i]!.t.kind, .string d[i]!.t.name, .int .i64 d[i]!.t.n, .slice d[i]!.a d[i]!.n d[i]!.cap][j]'hj4 := fun j hj4 => by
      match j, hj4 with
      | 0, _ => rfl
      | 1, _ => rfl
      | 2, _ => rfl
      | 3, _ => rfl
    rw [h3 j hj4]
    exact h2
end
/-- The cells of a new row. -/
def madeT (n : Nat) : Array Value := madeCells #[.int .i64 0, .string .empty, .int .i64 0, .slice none 0 0] (n * 4)
theorem madeT_at {n i j : Nat} (hi : i < n) (hj : j < 4) : (madeT n)[i * 4 + j]? = some ((default : El).cells[j]'(by rw [El.size]; exact hj)) := by
  have hlt : i * 4 + j < n * 4 := by omega
  unfold madeT madeCells
  rw [Array.getElem?_map, Array.getElem?_range, if_pos hlt]
  have e : (i * 4 + j) % (#[Value.int .i64 0, .string .empty, .int .i64 0, .slice none 0 0] : Array Value).size = j := by
    show (i * 4 + j) % 4 = j
    omega
  simp only [Option.map_some, e]
  match j, hj with
  | 0, _ => rfl
  | 1, _ => rfl
  | 2, _ => rfl
  | 3, _ => rfl
theorem RR.made (w : World) (base n : Nat) (e : TypeId) (hb : base ≤ w.heap.size) : RR base w.heap.size (Array.replicate n default) (w.alloc (.cells (madeT n) e)) := by
  have hB := Bo.new w e (madeT n)
  refine ⟨hb, by rw [World.size_alloc]; omega, fun i hi j hj => ?_, fun i hi => ?_⟩
  · have hi' : i < n := by simpa using hi
    have e1 : (Array.replicate n (default : El))[i]! = default := by simp [hi']
    rw [Nat.zero_add]
    refine ⟨?_, hB.frozen _⟩
    simp only [e1]
    exact hB.cell (madeT_at hi' hj)
  · have hi' : i < n := by simpa using hi
    have e1 : (Array.replicate n (default : El))[i]! = default := by simp [hi']
    rw [e1]
    show Mem _ _ (.s 4 (Tm.rows [])) (.slice none 0 0)
    rw [Tm.rows]
    exact .e _ _ _ (by decide)
theorem run_madeT (n : Nat) (hn : n ≤ 1048576) (w : World) : (Instr.makeSlice 89 (.int .i64 (n : Int)) (.int .i64 (n : Int))).run Try.prog w = .ok (.slice (some ⟨w.heap.size, 0, none⟩) n n) (w.alloc (.cells (madeT n) 96)) := by
  obtain ⟨i, hi, hzz⟩ := Option.map_eq_some_iff.1 info_term5
  simp only [Prod.mk.injEq] at hzz
  obtain ⟨hz, hs, hb⟩ := hzz
  have hr := run_make (P := Try.prog) (w := w) 89 96 i _ Try.underlying89 hi hz .i64 .i64 (n : Int) (n : Int) (by omega) (Int.le_refl _) (by rw [hb]; omega) (by omega)
  simp only [Int.toNat_natCast, hs] at hr
  exact hr
end Go.Proofs.Ytppejoccljfblaa

/-
  subst.replaced with Canon's function, which looks a number up in a map: a term, its variables numbered anew. No condition but how it lies, and how great it is.
-/
namespace Go.Proofs.Ytppejoccljfblaa
open Go.RowKit Go.Maps
theorem store_tmC {dst : Option Nat} {ty : TypeId} {pos : String} {after : Array Edge} {guard : Option (Nat × Bool)} {x y : Operand} {a : Act} {w : World} {K : Act → World → Prop} {Q : Exit → Act → World → Prop} (h : StOk 96 4 w (a.eval x) (a.eval y)) :
    Oper.wp Try.prog { dst := dst, op := .store 96 x y, type := ty, pos := pos, after := after, guard := guard } a w K Q = K (a.put dst undef) (w.setRow (stB (a.eval x)) (stC (a.eval y))) := wp_store_T rfl (by kernel_rfl) h
theorem stOk_tmC {w : World} {g m c : Nat} {k n : Int} {s : ByteArray} {a : Option Addr} : StOk 96 4 w (.pointer (some ⟨g, 0, none⟩)) (.agg #[.int .i64 k, .string s, .int .i64 n, .slice a m c]) = Wr w g 96 4 := stOk_eq rfl (by simp [Value.oneCell'])

theorem zeroI (w : World) : (zeroValue 3).run Try.prog w = .ok (.int .i64 0) w := by kernel_rfl
/-- What the map reads as, when so many places are laid. -/
def atD (V : List Int) : Nat → DataW Unit
  | 0 => .map []
  | k + 1 => (atD V k).put (.int .i64 (V.getD k 0)) (.lit (.int .i64 k))
theorem atD_map (V : List Int) : ∀ k, IsMap (atD V k)
  | 0 => isMap_empty
  | k + 1 => (atD_map V k).put _ _
theorem getD_inj {V : List Int} (h : V.Nodup) {i j : Nat} (hi : i < V.length) (hj : j < V.length) (e : V.getD i 0 = V.getD j 0) : i = j := by
  rw [List.getD_eq_getElem?_getD, List.getD_eq_getElem?_getD, List.getElem?_eq_getElem hi, List.getElem?_eq_getElem hj] at e
  have e' : V[i] = V[j] := by simpa using e
  have hp := List.pairwise_iff_getElem.1 h
  rcases Nat.lt_trichotomy i j with h1 | h1 | h1
  · exact absurd e' (hp i j hi hj h1)
  · exact h1
  · exact absurd e'.symm (hp j i hj hi h1)
theorem atD_at {V : List Int} (h : V.Nodup) (z : DataW Unit) : ∀ k, k ≤ V.length → ∀ i, i < k → (atD V k).atKey (.int .i64 (V.getD i 0)) z = .lit (.int .i64 i)
  | 0, _, i, hi => absurd hi (Nat.not_lt_zero _)
  | k + 1, hk, i, hi => by
    rw [atD]
    by_cases e : i = k
    · subst e
      exact atKey_put_same (atD_map V i) (by simp [WideAt.IsKeyLit]) _ _
    · rw [atKey_put_other (fun e2 => e (getD_inj h (by omega) (by omega) (by injection e2)))]
      exact atD_at h z k (by omega) i (by omega)
/-- The map of places lies there. -/
def MapAt (w : World) (b : Nat) (V : List Int) (k : Nat) : Prop := w.ownsMap Try.prog 3 (plainElem Try.prog 3) b k (atD V k)
theorem MapAt.keep {w w' : World} {b k : Nat} {V : List Int} (h : MapAt w b V k) (hb : Below w.heap.size w w') : MapAt w' b V k :=
  World.ownsMap.kept (row := none) h ⟨hb.os, hb.tape, hb.output, hb.size, fun i hi _ => hb.block i hi⟩ (by simp)

section
attribute [local go_sem ↓] store_tmC
attribute [local go_sem] stOk_tmC
attribute [local go_sem] stB_eq stC_eq wr_drew wr_alloc wr_row
set_option maxRecDepth 100000 in
set_option maxHeartbeats 2000000 in
theorem canon1_any {V : List Int} {n : Int} {q b : Nat} {w : World} (h1 : w.cell? ⟨q, 0, none⟩ = some (.map (some b))) (hM : MapAt w b V V.length) (hn : n ∈ V) (hnd : V.Nodup) (hwf : (Lit.int .i64 n).wf = true) :
    Calls Try.prog 169 #[.int .i64 n, .pointer (some ⟨q, 0, none⟩)] w fun e w' => e = .returned (.tuple #[.agg #[.int .i64 3, .string ⟨#[]⟩, .int .i64 (idxI V n), .slice none 0 0], .bool true]) ∧ Below w.heap.size w w' := by
  obtain ⟨i0, hi1, hi2, hi3, hi4⟩ := idx_of hn
  have HC : Hid (∀ c, (atD V V.length).atKey (.int .i64 n) (.lit (.int .i64 0)) = .lit (.int .i64 c) → c = (i0 : Int)) := Lib.hid fun c hc => by
    rw [← hi2, atD_at hnd _ _ (Nat.le_refl _) i0 hi1] at hc
    injection hc with hc
    injection hc with _ hc
    exact hc.symm
  have HW1 := Lib.hid (below_new w (.cells #[.int .i64 0, .string ⟨#[]⟩, .int .i64 0, .slice none 0 0] 96))
  have c1 := cell_below h1 HW1.out
  have HM1 := Lib.hid (hM.keep HW1.out)
  have q1l := World.block_lt_of_cell? w _ h1
  have HY := Lib.hid (Bo.new w 96 #[.int .i64 0, .string ⟨#[]⟩, .int .i64 0, .slice none 0 0])
  have hwr : Wr (w.alloc (.cells #[.int .i64 0, .string ⟨#[]⟩, .int .i64 0, .slice none 0 0] 96)) w.heap.size 96 4 := HY.out.wr
  have HI := Lib.hid hi4
  clear h1 hM hi1 hi2 hi3 hi4 hn hnd
  go_enter Try.func169, Try.ntmps169
  go_wp2_with (first
    | (at_lookup; refine wpList_lookup_own_int _ rfl _ _ 197 rfl 3 3 .i64 (int_keyed Try.underlying3) Try.underlying197 Try.underlying3 (zeroI _) b V.length (atD V V.length) rfl HM1.out _ _ rfl (keyOf_int_mk Try.underlying3 hwf) ?_; intro c hat hwc; have hc := HC.out c hat; clear hat hwc; subst hc))
  have HR := Lib.hid (HY.out.row #[.int .i64 3, .string ⟨#[]⟩, .int .i64 i0, .slice none 0 0]).c4
  exact bodyPost_ret (v := .tuple #[.agg #[.int .i64 3, .string ⟨#[]⟩, .int .i64 i0, .slice none 0 0], .bool true]) (by simp [results, Try.results169, go_sem, HR.out]) rfl ⟨by rw [HI.out], below_setRow HW1.out (Nat.le_refl _) _⟩
end
end Go.Proofs.Ytppejoccljfblaa
