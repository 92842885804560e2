/-
  The walk of the law TermTells: it answers true at every input. No condition but how the arguments lie and how great they are.
-/
import Derived.Test.YtemkpecagflafaaCompare3
import Derived.Test.YtemkpecagflafaaCompare
import Derived.Test.YtemkpecagflafaaSameTerms
import Derived.Test.YtemkpecagflafaaShowR
import Derived.Test.YtemkpecagflafaaVars3
import Derived.Test.YtemkpecagflafaaSizes
import Derived.Test.YtemkpecagflafaaAwake03
import Derived.Test.YtemkpecagflafaaGround
import Derived.Test.YtemkpecagflafaaAppLast
import Derived.Test.YtemkpecagflafaaRound
import Derived.StillTailTactics
namespace Go.Proofs.Ytemkpecagflafaa
open Go.RowKit
attribute [local go_sem] toList_beq Oper.semAt_some

theorem two_mem {w : World} {q : Nat} (hq : q = w.heap.size) (t u : Tm) {a a' : Option Addr} {n n' cap cap' : Nat} (h : MemW w (.s 4 (Tm.rows t.args)) (.slice a n cap)) (h' : MemW w (.s 4 (Tm.rows u.args)) (.slice a' n' cap')) :
    MemW (w.alloc (.cells #[.int .i64 t.kind, .string t.name, .int .i64 t.n, .slice a n cap, .int .i64 u.kind, .string u.name, .int .i64 u.n, .slice a' n' cap'] 64)) (.s 4 (Tm.rows [t, u])) (.slice (some ⟨q, 0, none⟩) 2 2) := by
  subst hq
  have f : ∀ {x : At} {y : Value}, MemW w x y → Mem (Nw w.heap.size w.heap.size w.heap.size) w x y := fun h => h.mono (fun _ hb => ⟨.inl hb, hb⟩) fun _ _ => rfl
  have := OwnD.mem (OwnD.built (B := w.heap.size) (base := w.heap.size) (e := 64) (w := w) (rs := Tm.rows [t, u]) (css := [[.int .i64 t.kind, .string t.name, .int .i64 t.n, .slice a n cap], [.int .i64 u.kind, .string u.name, .int .i64 u.n, .slice a' n' cap']])
      (by rw [Tm.rows, Tm.rows, Tm.rows]; exact .cons ⟨rfl, row_mk t (f h)⟩ (.cons ⟨rfl, row_mk u (f h')⟩ .nil)) (Nat.le_refl _) 2 (by rw [Tm.rows_len]; rfl) (by decide) #[.int .i64 t.kind, .string t.name, .int .i64 t.n, .slice a n cap, .int .i64 u.kind, .string u.name, .int .i64 u.n, .slice a' n' cap'] rfl)
  exact this.mono (fun _ hb => hb.2) fun _ _ => rfl
theorem one_mem {w : World} {q : Nat} (hq : q = w.heap.size) (t : Tm) {a : Option Addr} {n cap : Nat} (h : MemW w (.s 4 (Tm.rows t.args)) (.slice a n cap)) :
    MemW (w.alloc (.cells #[.int .i64 t.kind, .string t.name, .int .i64 t.n, .slice a n cap] 64)) (.s 4 (Tm.rows [t])) (.slice (some ⟨q, 0, none⟩) 1 1) := by
  subst hq
  have f : ∀ {x : At} {y : Value}, MemW w x y → Mem (Nw w.heap.size w.heap.size w.heap.size) w x y := fun h => h.mono (fun _ hb => ⟨.inl hb, hb⟩) fun _ _ => rfl
  have := OwnD.mem (tm_one (B := w.heap.size) (base := w.heap.size) (e := 64) t (f h) (Nat.le_refl _))
  exact this.mono (fun _ hb => hb.2) fun _ _ => rfl

theorem OwnD.own {B base : Nat} {e : TypeId} {sz : Nat} {w w' : World} {y : Value} {rs : List (List At)} {row : Option Nat} (h : OwnD B base e sz w y rs) (hg : w.grownBy w' row) (hr : ∀ r, row = some r → ∃ o : Obj, w.heap[r]? = some o ∧ o.isCells = false) : OwnD B base e sz w' y rs := by
  obtain ⟨css, h1, h2⟩ := h
  have hc : ∀ (b j : Nat) (v : Value), w.cell? ⟨b, j, none⟩ = some v → w'.cell? ⟨b, j, none⟩ = some v := fun b j v hv => by
    refine (World.cell?_of_block (hg.block b (World.block_lt_of_cell? w _ hv) fun e => ?_)).trans hv
    obtain ⟨o, ho, hno⟩ := hr b e.symm
    simp only [World.cell?, ho] at hv
    cases o <;> simp_all [Obj.isCells]
  refine ⟨css, ⟨h1.1, ?_⟩, h2.imp fun r cs ⟨hl, hm⟩ => ⟨hl, hm.imp fun a b hab => Mem.cells hab (fun k hk => ⟨⟨hk.1.1, Nat.lt_of_lt_of_le hk.1.2 hg.size⟩, hk.2⟩) fun b j v _ hv => hc b j v hv⟩⟩
  rcases h1.2 with hn | ⟨g, cap, cur, rfl, hb, hgg, rest⟩
  · exact .inl hn
  · refine .inr ⟨g, cap, cur, rfl, hb, (hg.block g (Array.getElem?_eq_some_iff.1 hgg).1 fun e => ?_).trans hgg, rest⟩
    obtain ⟨o, ho, hno⟩ := hr g e.symm
    rw [hgg] at ho; cases ho; cases hno
/-- A variable that holds a slice of the body's own. -/
def HoldsD {β : Type} (g B base : Nat) (T e : TypeId) (sz : Nat) (f : β → List (List At)) (p : β → Prop) (s : β) (W : World) : Prop := ∃ v, Boxed W g T v ∧ OwnD B base e sz W v (f s) ∧ p s
theorem holdsD_own {β : Type} (g B base : Nat) (T e : TypeId) (sz : Nat) (f : β → List (List At)) (p : β → Prop) : Own (HoldsD g B base T e sz f p) := fun s W W' row ⟨v, h1, h2, h3⟩ hg hr =>
  ⟨v, h1.kept hg (fun e => by obtain ⟨o, ho, hc⟩ := hr g e.symm; rw [show W.heap[g]? = _ from h1] at ho; cases ho; cases hc), h2.own hg hr, h3⟩
/-- What a round that turns the variable g and its row keeps. -/
theorem kpt_of {g : Nat} {W W' : World} {v v' : Value} {T : TypeId} (hv : Boxed W g T v) (hv' : Boxed W' g T v') (hs : W.heap.size ≤ W'.heap.size) (hsame : ∀ k, k < W.heap.size → k ≠ g → v.ownBlock ≠ some k → W'.heap[k]? = W.heap[k]?)
    (hown : ∀ k, v'.ownBlock = some k → (v.ownBlock = some k ∨ W.heap.size ≤ k) ∧ k < W'.heap.size) (hsl : v = .slice none 0 0 ∨ ∃ b n c, v = .slice (some ⟨b, 0, none⟩) n c) : KpT [g] [g] W W' := by
  have h1 : ∀ k, v.ownBlock = some k → ownB [g] [g] W k := fun k hk => by
    rcases hsl with rfl | ⟨b, n, c, rfl⟩
    · cases hk
    · have : b = k := by simpa [Value.ownBlock] using hk
      subst this
      exact .inr ⟨g, by simp, n, c, hv.cell⟩
  have h2 : ∀ k, ownB [g] [g] W' k → k = g ∨ v'.ownBlock = some k := fun k hk => by
    rcases hk with h | ⟨b, hb, n, c, hc⟩
    · exact .inl (by simpa using h)
    · obtain rfl : b = g := by simpa using hb
      rw [hv'.cell] at hc
      cases hc
      exact .inr rfl
  refine ⟨⟨hs, fun k o hk hn _ => ?_, fun k hk => ?_⟩, fun _ k hk => ?_⟩
  · have hlt := (Array.getElem?_eq_some_iff.1 hk).1
    exact (hsame k hlt (fun e => hn (.inl (by simp [e]))) (fun e => hn (h1 k e))).trans hk
  · rcases h2 k hk with rfl | h
    · exact .inl (.inl (by simp))
    · rcases (hown k h).1 with h3 | h3
      · exact .inl (h1 k h3)
      · exact .inr h3
  · rcases h2 k hk with rfl | h
    · exact hv'.lt
    · exact (hown k h).2
theorem keeps_of {g B : Nat} {W W' : World} {v : Value} {T e : TypeId} {b' base sz : Nat} {rs : List (List At)} (hv : Boxed W g T v) (hO : OwnD b' base e sz W v rs) (hs : W.heap.size ≤ W'.heap.size) (hsame : ∀ k, k < W.heap.size → k ≠ g → v.ownBlock ≠ some k → W'.heap[k]? = W.heap[k]?) : KeepsFrom B W W' := by
  refine ⟨hs, fun k o _ hk ho => (hsame k (Array.getElem?_eq_some_iff.1 hk).1 (fun e => ?_) (fun e => ?_)).trans hk⟩
  · subst e
    rw [show W.heap[k]? = _ from hv] at hk; cases hk; cases ho
  · obtain ⟨css, h1, _⟩ := hO
    rcases h1.2 with ⟨rfl, _⟩ | ⟨g', cap, cur, rfl, _, hgg, _⟩
    · cases e
    · have : g' = k := by simpa [Value.ownBlock] using e
      subst this
      rw [hgg] at hk; cases hk; cases ho
theorem OwnD.slice {B base : Nat} {e : TypeId} {sz : Nat} {w : World} {y : Value} {rs : List (List At)} (h : OwnD B base e sz w y rs) : y = .slice none 0 0 ∨ ∃ b n c, y = .slice (some ⟨b, 0, none⟩) n c := by
  obtain ⟨css, h1, _⟩ := h
  rcases h1.2 with ⟨rfl, _⟩ | ⟨g', cap, cur, rfl, _⟩
  · exact .inl rfl
  · exact .inr ⟨_, _, _, rfl⟩
theorem OwnD.cellFar {B base : Nat} {e : TypeId} {sz : Nat} {w : World} {y : Value} {rs : List (List At)} (h : OwnD B base e sz w y rs) (g : Nat) (v : Value) (h1 : g < base) (h2 : B ≤ g) : OwnD B base e sz (w.setCell ⟨g, 0, none⟩ v) y rs := by
  have hs : (w.setCell ⟨g, 0, none⟩ v).heap.size = w.heap.size := by simp [World.setCell]
  obtain ⟨css, ho, hm⟩ := h
  refine ⟨css, ⟨ho.1, ?_⟩, hm.imp fun r cs' ⟨hc, hm⟩ => ⟨hc, hm.imp fun x y' hx => hx.mono (fun b ⟨⟨h1, h3⟩, h2⟩ => ⟨⟨h1, by rw [hs]; exact h3⟩, h2⟩) fun b ⟨⟨h3, _⟩, _⟩ => heap_setCell_other w ⟨g, 0, none⟩ b v (by show b ≠ g; rcases h3 with h3 | h3 <;> omega)⟩⟩
  rcases ho.2 with hn | ⟨g', cap, cur, rfl, hb, hgg, rest⟩
  · exact .inl hn
  · exact .inr ⟨g', cap, cur, rfl, hb, (heap_setCell_other w ⟨g, 0, none⟩ g' v (by show g' ≠ g; omega)).trans hgg, rest⟩
theorem boxed_of {w w' : World} {g : Nat} {T : TypeId} {v : Value} (h : Boxed w g T v) (hb : w'.heap[g]? = w.heap[g]?) : Boxed w' g T v := hb.trans h

theorem varsI_grows (l : List Int) (ts : List Tm) : l.length ≤ (varsI l ts).length := by
  induction ts generalizing l with
  | nil => exact Nat.le_refl _
  | cons x ts ih =>
    have e : varsI l (x :: ts) = varsI (if x.kind = 3 then putI l x.n else l) ts := rfl
    rw [e]
    refine Nat.le_trans ?_ (ih _)
    split
    · unfold putI; split <;> simp
    · exact Nat.le_refl _
theorem varsI_none (ts : List Tm) : (varsI [] ts).length = 0 ↔ ∀ x ∈ ts, x.kind ≠ 3 := by
  induction ts with
  | nil => simp [varsI]
  | cons x ts ih =>
    have e : varsI [] (x :: ts) = varsI (if x.kind = 3 then putI [] x.n else []) ts := rfl
    rw [e]
    by_cases h : x.kind = 3
    · rw [if_pos h]
      have := varsI_grows (putI [] x.n) ts
      have h1 : (putI [] x.n).length = 1 := by simp [putI]
      constructor
      · intro h2; omega
      · intro h2; exact absurd h (h2 x (List.mem_cons_self ..))
    · rw [if_neg h, ih]
      constructor
      · intro h2 y hy
        rcases List.mem_cons.1 hy with rfl | hy
        · exact h
        · exact h2 y hy
      · intro h2 y hy; exact h2 y (List.mem_cons_of_mem _ hy)
theorem ground_vars (t : Tm) : (((varsI [] t.all).length : Int) == 0) = groundB t := by
  rw [Bool.eq_iff_iff, beq_iff_eq]
  have h1 : ((varsI [] t.all).length : Int) = 0 ↔ (varsI [] t.all).length = 0 := by omega
  rw [h1, varsI_none]
  unfold groundB
  rw [List.all_eq_true]
  constructor
  · intro h x hx; simpa using h x hx
  · intro h x hx; simpa using h x hx
set_option maxRecDepth 100000 in
set_option maxHeartbeats 2000000 in
theorem sameTm_any {t u : Tm} {a a' : Option Addr} {n n' cap cap' : Nat} (w : World) (h : MemW w (.s 4 (Tm.rows t.args)) (.slice a n cap)) (h' : MemW w (.s 4 (Tm.rows u.args)) (.slice a' n' cap')) :
    Calls Try.prog 73 #[.agg #[.int .i64 t.kind, .string t.name, .int .i64 t.n, .slice a n cap], .agg #[.int .i64 u.kind, .string u.name, .int .i64 u.n, .slice a' n' cap']] w fun e w' => e = .returned (.bool (cmpT t u == 0)) ∧ Below w.heap.size w w' := by
  have HT := Lib.hid h
  have HU := Lib.hid h'
  clear h h'
  have HB0 : Hid (Below w.heap.size w ((w.alloc (.cells #[.int .i64 t.kind, .string t.name, .int .i64 t.n, .slice a n cap] 64)).alloc (.cells #[.int .i64 u.kind, .string u.name, .int .i64 u.n, .slice a' n' cap'] 64))) := Lib.hid ((below_new w _).alloc (by simp) _)
  go_enter Try.func73, Try.ntmps73
  go_wp2_with (first
    | (go_at_call 50 ; refine (compare_any t u _ _ _ _ _ _ _ (MemW.keep HT.out HB0.out) (MemW.keep HU.out HB0.out)).mono ?_; rintro e w3 ⟨rfl, hb⟩; have HB3 := Lib.hid hb; clear hb))
  go_ret
  exact ⟨rfl, Below.to HB0.out HB3.out⟩

set_option maxRecDepth 100000 in
set_option maxHeartbeats 2000000 in
theorem termTells_any {t u : Tm} {a a' : Option Addr} {n n' cap cap' : Nat} (most : Int) (w : World) (h : MemW w (.s 4 (Tm.rows t.args)) (.slice a n cap)) (h' : MemW w (.s 4 (Tm.rows u.args)) (.slice a' n' cap')) (hs : t.size + u.size ≤ 1048576) (hok : t.ok) (hw : t.wt ≤ 1048576) (hmo : -9223372036854775808 ≤ most ∧ most ≤ 9223372036854775807) :
    Calls Try.prog 13 #[.agg #[.int .i64 t.kind, .string t.name, .int .i64 t.n, .slice a n cap], .agg #[.int .i64 u.kind, .string u.name, .int .i64 u.n, .slice a' n' cap'], .int .i64 most] w fun e w' => e = .returned (.bool true) ∧ Below w.heap.size w w' := by
  have hsz : (Tm.alls [t, u]).length ≤ 1048576 := by
    simp only [Tm.alls, List.length_append, List.length_nil]
    have : t.all.length = t.size := rfl
    have : u.all.length = u.size := rfl
    omega
  have HW3 : Hid (Below w.heap.size w (((w.alloc (.cells #[.int .i64 t.kind, .string t.name, .int .i64 t.n, .slice a n cap] 64)).alloc (.cells #[.int .i64 u.kind, .string u.name, .int .i64 u.n, .slice a' n' cap'] 64)).alloc (.cells #[.int .i64 most] 3))) := ((below_new w _).alloc (by simp) _).alloc (by simp; omega) _
  have HBt : Hid (Bo (((w.alloc (.cells #[.int .i64 t.kind, .string t.name, .int .i64 t.n, .slice a n cap] 64)).alloc (.cells #[.int .i64 u.kind, .string u.name, .int .i64 u.n, .slice a' n' cap'] 64)).alloc (.cells #[.int .i64 most] 3)) w.heap.size 64 #[.int .i64 t.kind, .string t.name, .int .i64 t.n, .slice a n cap]) := ((Bo.new w _ _).alloc _).alloc _
  have HBu : Hid (Bo (((w.alloc (.cells #[.int .i64 t.kind, .string t.name, .int .i64 t.n, .slice a n cap] 64)).alloc (.cells #[.int .i64 u.kind, .string u.name, .int .i64 u.n, .slice a' n' cap'] 64)).alloc (.cells #[.int .i64 most] 3)) (w.heap.size + 1) 64 #[.int .i64 u.kind, .string u.name, .int .i64 u.n, .slice a' n' cap']) := (World.size_alloc w (.cells #[.int .i64 t.kind, .string t.name, .int .i64 t.n, .slice a n cap] 64) ▸ Bo.new (w.alloc (.cells #[.int .i64 t.kind, .string t.name, .int .i64 t.n, .slice a n cap] 64)) 64 #[.int .i64 u.kind, .string u.name, .int .i64 u.n, .slice a' n' cap'] : Bo _ (w.heap.size + 1) _ _).alloc _
  have HBm : Hid (Bo (((w.alloc (.cells #[.int .i64 t.kind, .string t.name, .int .i64 t.n, .slice a n cap] 64)).alloc (.cells #[.int .i64 u.kind, .string u.name, .int .i64 u.n, .slice a' n' cap'] 64)).alloc (.cells #[.int .i64 most] 3)) (w.heap.size + 1 + 1) 3 #[.int .i64 most]) := by
    have := Bo.new ((w.alloc (.cells #[.int .i64 t.kind, .string t.name, .int .i64 t.n, .slice a n cap] 64)).alloc (.cells #[.int .i64 u.kind, .string u.name, .int .i64 u.n, .slice a' n' cap'] 64)) 3 #[.int .i64 most]
    rw [World.size_alloc, World.size_alloc] at this
    exact this
  have HA1 : Hid ((Tm.alls [t]).length ≤ 1048576) := Lib.hid (by
    simp only [Tm.alls, List.length_append, List.length_nil]
    have : t.all.length = t.size := rfl
    omega)
  have HOK := Lib.hid hok
  have HWT := Lib.hid hw
  have HGV : Hid ((varsI [] (Tm.alls [t])).length = (varsI [] t.all).length) := Lib.hid (by simp only [Tm.alls, List.append_nil])
  have HGR : Hid ((((varsI [] t.all).length : Int) == 0) = groundB t) := Lib.hid (ground_vars t)
  clear hok hw
  have HFew := Lib.hid (fun (w1 : World) (q : Nat) (hq : q = w1.heap.size) (hb : Below w.heap.size w w1) => few_any (l := [t, u]) _ (two_mem hq t u (MemW.keep h hb) (MemW.keep h' hb)) hsz)
  have Ht := Lib.hid h
  have Hu := Lib.hid h'
  have HS := Lib.hid hs
  clear h h' hs hsz
  generalize hfew : fewB [t, u] = fb at *
  have HFB := Lib.hid hfew
  clear hfew
  cases fb with
  | false =>
    go_enter Try.func13, Try.ntmps13
    go_wp2_with (first
      | (go_at_call 48 ; refine (awake03_any _).mono ?_; rintro e w1 ⟨rfl, hb⟩; have HB1 := Lib.hid hb; clear hb; obtain ⟨t0, t1, t2, t3⟩ := (HBt.out.keep HB1.out).c4; obtain ⟨u0, u1, u2, u3⟩ := (HBu.out.keep HB1.out).c4)
      | (go_at_call 49 ; refine (HFew.out w1 _ rfl (Below.to HW3.out HB1.out)).mono ?_; rintro e w2 ⟨rfl, hb⟩; have HB2 := Lib.hid hb; clear hb))
    go_ret
    exact ⟨rfl, Below.toA (Below.to HW3.out HB1.out) HB2.out⟩
  | true =>
    refine (callsIn_wide (n := 9)).1 ?_
    refine callsIn_of_wp_marks Try.func13 rfl trivial ?_ rfl; simp only [Try.ntmps13, List.size_toArray, List.length_cons, List.length_nil, Nat.reduceAdd, Nat.reduceSub, Array.replicate_succ, Array.replicate_zero, List.push_toArray, List.append_toArray, List.nil_append, List.cons_append]
    refine wpIn_wide.2 ?_
    go_wp2_with (first
      | (go_at_call 48 ; refine (awake03_any _).mono ?_; rintro e w1 ⟨rfl, hb⟩; have HB1 := Lib.hid hb; clear hb; obtain ⟨t0, t1, t2, t3⟩ := (HBt.out.keep HB1.out).c4; obtain ⟨u0, u1, u2, u3⟩ := (HBu.out.keep HB1.out).c4)
      | (go_at_call 49 ; refine (HFew.out w1 _ rfl (Below.to HW3.out HB1.out)).mono ?_; rintro e w2 ⟨rfl, hb⟩; have HB2 := Lib.hid hb; clear hb; have HW2 : Hid (Below w.heap.size w w2) := Below.toA (Below.to HW3.out HB1.out) HB2.out; have HBt2 := Lib.hid (((HBt.out.keep HB1.out).alloc _).keep HB2.out); have HBu2 := Lib.hid (((HBu.out.keep HB1.out).alloc _).keep HB2.out); have HBm2 := Lib.hid (((HBm.out.keep HB1.out).alloc _).keep HB2.out); obtain ⟨t0, t1, t2, t3⟩ := HBt2.out.c4)
      | (go_at_call 62
         refine (all03 (B := w.heap.size) (by have := HS.out; omega : t.size ≤ 1048576) (Mem.keep Ht.out (Nat.le_refl _) HW2.out) HW2.out.size).mono ?_
         rintro e w5 ⟨aa, na, ca, rfl, hb, hm⟩
         have HB5 := Lib.hid hb
         have HM5 := Lib.hid hm
         clear hb hm
         have HW5 : Hid (Below w.heap.size w w5) := Below.to HW2.out HB5.out
         have HBt5 := Lib.hid (HBt2.out.keep HB5.out)
         have HBu5 := Lib.hid (HBu2.out.keep HB5.out)
         have HBm5 := Lib.hid (HBm2.out.keep HB5.out)
         clear t0 t1 t2 t3
         obtain ⟨t0, t1, t2, t3⟩ := (HBt5.out.alloc (.cells #[.slice none 0 0] 62)).c4)
      | (go_at_call 63 ; refine (allT_any _ _ _ _ _).mono ?_; rintro e w' ⟨rfl, rfl⟩))
    clear t0 t1 t2 t3 u0 u1 u2 u3 HW3 HFew HB1 HB2 HBt HBu HBm HBt2 HBu2 HBm2
    refine (wpIn_wide (n := 9)).1 ?_
    have b1 := (Boxed.new w5 62 (.slice none 0 0)).alloc (.cells #[.int .i64 t.kind, .string t.name, .int .i64 t.n, .slice a n cap] 64)
    have b2 := Bo.new (w5.alloc (.cells #[.slice none 0 0] 62)) 64 #[.int .i64 t.kind, .string t.name, .int .i64 t.n, .slice a n cap]
    simp only [World.size_alloc] at b1 b2
    have H1 := Lib.hid b1
    have H2 := Lib.hid b2
    have HB6 : Hid (Below w5.heap.size w5 ((w5.alloc (.cells #[.slice none 0 0] 62)).alloc (.cells #[.int .i64 t.kind, .string t.name, .int .i64 t.n, .slice a n cap] 64))) := Lib.hid (((Below.refl _ w5).alloc (Nat.le_refl _) _).alloc (by simp) _)
    have HSZ : Hid (((w5.alloc (.cells #[.slice none 0 0] 62)).alloc (.cells #[.int .i64 t.kind, .string t.name, .int .i64 t.n, .slice a n cap] 64)).heap.size = w5.heap.size + 2) := Lib.hid (by simp)
    clear b1 b2
    generalize ((w5.alloc (.cells #[.slice none 0 0] 62)).alloc (.cells #[.int .i64 t.kind, .string t.name, .int .i64 t.n, .slice a n cap] 64)) = w6 at *
    have HW6 : Hid (Below w.heap.size w w6) := Below.to HW5.out HB6.out
    have HG5 := Lib.hid HW5.out.size
    have hseq : IterT Try.prog 105 #[.pointer (some ⟨w5.heap.size + 1, 0, none⟩)] w t [w5.heap.size] [w5.heap.size] w6 := all1_term Ht.out H2.out (Sd.new HW6.out (fun b hb => by simp at hb; have := HSZ.out; omega) (fun k hk => by
      rcases hk with h | ⟨b, hb, n, c, hc⟩
      · simp at h; have := HSZ.out; have := HG5.out; omega
      · obtain rfl : b = w5.heap.size := by simpa using hb
        rw [H1.out.cell] at hc; cases hc))
    have HTS := Lib.hid (show t.size ≤ 1048576 by have := HS.out; omega)
    refine wpIn_rangeFunc_ownH (w0 := w6) rfl (by decide) (gf := 105) (lb := #[.pointer (some ⟨w5.heap.size + 1, 0, none⟩)]) rfl trivial (enters_of Try.func105 (by kernel_rfl) rfl)
      (hseq 8) (fun h k => KpT.trans h k) (KpT_b (fun b hb => by simp at hb; have := HSZ.out; omega)) (Below.refl _ _) (fun _ => rfl)
      (fun pre W => HoldsD w5.heap.size w.heap.size (w5.heap.size + 1) 62 64 4 (fun pre => Tm.rows (pre.map Fx.t)) (fun pre => pre.length ≤ most.toNat) pre W ∧ Below w5.heap.size w5 W)
      (fun c pre W => (HoldsD w5.heap.size w.heap.size (w5.heap.size + 1) 62 64 4 (fun pre => Tm.rows ((pre.map Fx.t).take most.toNat)) (fun pre => most.toNat < pre.length) pre W ∧ Below w5.heap.size w5 W) ∧ c = .exit 0)
      (OwnFrom.and (Own.from (holdsD_own _ _ _ _ _ _ _ _) _) (ownFrom_below (Nat.le_refl _) (by rw [HSZ.out]; omega)))
      (fun c => OwnFrom.and (OwnFrom.and (Own.from (holdsD_own _ _ _ _ _ _ _ _) _) (ownFrom_below (Nat.le_refl _) (by rw [HSZ.out]; omega))) (fun _ _ _ _ hs _ _ => hs))
      ⟨⟨_, H1.out, OwnD.nil _ _ _ _ _, Nat.zero_le _⟩, HB6.out⟩
      (fun x A' W => ∃ Bx, w5.heap.size < Bx ∧ Bo W Bx 64 #[.int .i64 x.t.kind, .string x.t.name, .int .i64 x.t.n, .slice x.a x.n x.cap] ∧ A' = { tmps := #[.agg #[.int .i64 t.kind, .string t.name, .int .i64 t.n, .slice a n cap], .agg #[.int .i64 u.kind, .string u.name, .int .i64 u.n, .slice a' n' cap'], .int .i64 most, .pointer (some ⟨w.heap.size, 0, none⟩), .pointer (some ⟨w.heap.size + 1, 0, none⟩), .pointer (some ⟨w.heap.size + 1 + 1, 0, none⟩), .bool false, .slice aa na ca, .pointer (some ⟨w5.heap.size, 0, none⟩), .pointer (some ⟨Bx, 0, none⟩), undef, undef, .bool true, .bool false, .agg #[.int .i64 t.kind, .string t.name, .int .i64 t.n, .slice a n cap], .agg #[.int .i64 u.kind, .string u.name, .int .i64 u.n, .slice a' n' cap'], .slice (some ⟨w1.heap.size, 0, none⟩) 2 2, .bool true, .bool false, .agg #[.int .i64 t.kind, .string t.name, .int .i64 t.n, .slice a n cap], .slice aa na ca, .agg #[.int .i64 t.kind, .string t.name, .int .i64 t.n, .slice a n cap], .func (.func 105) #[] #[.pointer (some ⟨w5.heap.size + 1, 0, none⟩)], .agg #[.int .i64 x.t.kind, .string x.t.name, .int .i64 x.t.n, .slice x.a x.n x.cap], undef, undef, undef, undef, undef, undef, undef, undef, undef, undef, undef, undef, undef, undef, undef, undef, undef, undef, undef, undef, undef, undef, undef, undef, undef, undef, undef, undef, undef, undef, undef, undef, undef, undef, undef, undef, undef, undef, undef, undef, undef, undef, undef, undef, undef, undef, undef, undef, undef, undef, undef, undef, undef, undef, undef, undef, undef, undef, undef, undef, undef, undef, undef, undef, undef, undef, undef, undef, undef, undef, undef, undef, undef, undef, undef], defers := [] })
      (fun x _ _ X Y row hs hg hr => by obtain ⟨Bx, e1, e2, e3⟩ := hs; exact ⟨Bx, e1, e2.own hg (fun r e => (hr r e).2), e3⟩)
      ?assign ?body ?done ?stop
    case assign =>
      rintro l pre x W K ⟨⟨v, hv, hO, hle⟩, hB⟩ hK
      simp only [Fx.enc]
      gi_wp2
      exact hK _ _ ((KeepsOthers.alloc _ _).from _) (KpT.alloc _ (fun b hb => by simp at hb; subst hb; exact hv.lt)) ⟨⟨v, hv.alloc _, hO.alloc _, hle⟩, hB.alloc hB.size _⟩ ⟨W.heap.size, hv.lt, Bo.new W _ _, rfl⟩
    case body =>
      rintro l pre x A' W hl ⟨r, hr⟩ ⟨⟨v, hv, hO, hle⟩, hB⟩ ⟨Bx, hBx, bX, rfl⟩ hlt
      obtain ⟨c0, c1, c2, c3⟩ := bX.c4
      have cR := hv.cell
      have fR := hv.frozen
      have cM := (HBm5.out.below hB HBm5.out.lt).cell (j := 0) rfl
      have HO := Lib.hid hO
      have HHV := Lib.hid hv
      have HHB := Lib.hid hB
      have HLT := Lib.hid hlt
      have HLE := Lib.hid hle
      obtain ⟨va, vc, rfl, hvc, hvm⟩ := hO.form
      rw [Tm.rows_len, List.length_map] at *
      clear hO hB hlt
      by_cases hmost : most ≤ (pre.length : Int)
      · have HT := Lib.hid (show ((pre ++ [x]).map Fx.t).take most.toNat = pre.map Fx.t by rw [List.map_append, List.take_append_of_le_length (by rw [List.length_map]; omega), List.take_of_length_le (by rw [List.length_map]; omega)])
        clear hle
        gi_wp2
        exact ⟨KeepsFrom.refl _ _, ⟨⟨_, HHV.out, by show OwnD _ _ _ _ _ _ (Tm.rows (((pre ++ [x]).map Fx.t).take most.toNat)); rw [HT.out]; exact HO.out, by show most.toNat < (pre ++ [x]).length; rw [List.length_append, List.length_cons, List.length_nil]; omega⟩, HHB.out⟩, rfl⟩
      · have hbW : Below w.heap.size w W := HW5.out.trans (HHB.out.mono HG5.out)
        have hgW : w5.heap.size + 1 ≤ W.heap.size := HHV.out.lt
        have hx := HO.out.old (by have := HG5.out; omega) hgW (Mem.keep x.m (Nat.le_refl _) hbW)
        have hrl : (Tm.rows (pre.map Fx.t)).length = pre.length := by rw [Tm.rows_len, List.length_map]
        obtain ⟨g, cap1, wA, hrun, hcap, hcapm, hglt, hth, hown, hgrow, hat, hszA, hblk⟩ := append_last (P := Try.prog) (w := W.drew) (t := 62) 62 64 Try.underlying62 info_term rfl (by decide)
          #[.int .i64 0, .string ⟨#[]⟩, .int .i64 0, .slice none 0 0] rfl (by simp [Value.oneCell']) (x := x.t.row) (cs := #[.int .i64 x.t.kind, .string x.t.name, .int .i64 x.t.n, .slice x.a x.n x.cap]) (OwnD.keep HO.out (below_drew W)) ((row_mk x.t hx).imp fun _ _ h => h.drew) rfl (by rw [hrl]; have := HLT.out; have := HTS.out; omega) (by rw [hrl]; have := HLT.out; have := HTS.out; omega) hgW
        rw [hrl] at hrun hcap hth hown hgrow
        have HRUN := Lib.hid hrun
        have HTH := Lib.hid hth
        have hszW : W.drew.heap.size = W.heap.size := rfl
        have hne : (Value.slice va pre.length vc).ownBlock ≠ some w5.heap.size := fun e => by have := (HO.out.lt _ e).1; omega
        have hgne : g ≠ w5.heap.size := by
          rcases hat with h | h
          · exact fun e => hne (e ▸ h)
          · have : W.drew.heap.size = W.heap.size := rfl
            omega
        have hbx : Boxed (wA.setCells g (pre.length * 4) #[.int .i64 x.t.kind, .string x.t.name, .int .i64 x.t.n, .slice x.a x.n x.cap].toList) w5.heap.size 62 (.slice va pre.length vc) := (hgrow.block _ (by show _ < W.heap.size; omega) (fun e => hne e.symm)).trans HHV.out
        have cB := hbx.cell
        have fB := hbx.frozen
        have HGN := Lib.hid hgne
        have hbxA : Boxed wA w5.heap.size 62 (.slice va pre.length vc) := (hblk _ (by omega) hne).trans HHV.out
        have cA := hbxA.cell
        have fA := hbxA.frozen
        clear hbxA
        have hszB : W.heap.size ≤ (wA.setCells g (pre.length * 4) #[.int .i64 x.t.kind, .string x.t.name, .int .i64 x.t.n, .slice x.a x.n x.cap].toList).heap.size := hgrow.size
        have hsame : ∀ k, k < W.heap.size → k ≠ w5.heap.size → (Value.slice va pre.length vc).ownBlock ≠ some k → ((wA.setCells g (pre.length * 4) #[.int .i64 x.t.kind, .string x.t.name, .int .i64 x.t.n, .slice x.a x.n x.cap].toList).setCell ⟨w5.heap.size, 0, none⟩ (.slice (some ⟨g, 0, none⟩) (pre.length + 1) cap1)).heap[k]? = W.heap[k]? := fun k hk h1 h2 =>
          (heap_setCell_other _ _ _ _ h1).trans (hgrow.block k hk (fun e => h2 e.symm))
        have hszC : W.heap.size ≤ ((wA.setCells g (pre.length * 4) #[.int .i64 x.t.kind, .string x.t.name, .int .i64 x.t.n, .slice x.a x.n x.cap].toList).setCell ⟨w5.heap.size, 0, none⟩ (.slice (some ⟨g, 0, none⟩) (pre.length + 1) cap1)).heap.size := by simpa [World.setCell] using hszB
        have hglt' : g < ((wA.setCells g (pre.length * 4) #[.int .i64 x.t.kind, .string x.t.name, .int .i64 x.t.n, .slice x.a x.n x.cap].toList).setCell ⟨w5.heap.size, 0, none⟩ (.slice (some ⟨g, 0, none⟩) (pre.length + 1) cap1)).heap.size := by
          simp only [World.setCell, Array.size_modify]; rw [setCells_size]; exact hglt
        have HEND : Hid (KeepsFrom w6.heap.size W ((wA.setCells g (pre.length * 4) #[.int .i64 x.t.kind, .string x.t.name, .int .i64 x.t.n, .slice x.a x.n x.cap].toList).setCell ⟨w5.heap.size, 0, none⟩ (.slice (some ⟨g, 0, none⟩) (pre.length + 1) cap1)) ∧ KpT [w5.heap.size] [w5.heap.size] W ((wA.setCells g (pre.length * 4) #[.int .i64 x.t.kind, .string x.t.name, .int .i64 x.t.n, .slice x.a x.n x.cap].toList).setCell ⟨w5.heap.size, 0, none⟩ (.slice (some ⟨g, 0, none⟩) (pre.length + 1) cap1)) ∧ HoldsD w5.heap.size w.heap.size (w5.heap.size + 1) 62 64 4 (fun pre : List (Fx w) => Tm.rows (pre.map Fx.t)) (fun pre => pre.length ≤ most.toNat) (pre ++ [x]) ((wA.setCells g (pre.length * 4) #[.int .i64 x.t.kind, .string x.t.name, .int .i64 x.t.n, .slice x.a x.n x.cap].toList).setCell ⟨w5.heap.size, 0, none⟩ (.slice (some ⟨g, 0, none⟩) (pre.length + 1) cap1)) ∧ Below w5.heap.size w5 ((wA.setCells g (pre.length * 4) #[.int .i64 x.t.kind, .string x.t.name, .int .i64 x.t.n, .slice x.a x.n x.cap].toList).setCell ⟨w5.heap.size, 0, none⟩ (.slice (some ⟨g, 0, none⟩) (pre.length + 1) cap1))) := by
          refine ⟨keeps_of (B := w6.heap.size) HHV.out HO.out hszC hsame, kpt_of HHV.out (hbx.set _) hszC hsame (fun k hk => ?_) HO.out.slice, ⟨_, hbx.set (.slice (some ⟨g, 0, none⟩) (pre.length + 1) cap1), ?_, ?_⟩, ?_⟩
          · have : g = k := by simpa [Value.ownBlock] using hk
            subst this
            exact ⟨hat, hglt'⟩
          · show OwnD _ _ _ _ _ _ (Tm.rows ((pre ++ [x]).map Fx.t))
            rw [List.map_append, Tm.rows_app]
            exact hown.cellFar w5.heap.size _ (Nat.lt_succ_self _) HG5.out
          · show (pre ++ [x]).length ≤ most.toNat
            rw [List.length_append, List.length_cons, List.length_nil]; omega
          · exact (grown_below (below_drewN HHB.out 1) hgrow (Nat.le_refl _) (fun k hk => by have := (HO.out.lt k hk).1; omega)).setCell (p := ⟨w5.heap.size, 0, none⟩) (Nat.le_refl _) _
        obtain ⟨d0, d1, d2, d3⟩ := (bX.alloc (.cells #[.int .i64 0, .string ⟨#[]⟩, .int .i64 0, .slice none 0 0] 64)).c4
        have dR := (HHV.out.alloc (.cells #[.int .i64 0, .string ⟨#[]⟩, .int .i64 0, .slice none 0 0] 64)).cell
        clear hrun hth hown hgrow hat hblk hsame hszC hglt' hszB hbx hne hgne hx hbW hle
        gi_wp2
        refine wpIn_region_any (by kernel_rfl) ?_
        change wpAnyIn _ _ _ _ _ _ _ _ _ (World.drew _)
        apply leafOf
        intro hl
        refine wpAnyIn_ready (rs := [0, 1, 3]) (by kernel_rfl) (by simp) ?_
        refine AllReadyIn.cons rfl (fun K hK => ?_) ?_
        · go_simp
          refine hK _ _ ?_
          clear hK K
          refine wpAnyIn_ready (rs := [1, 2, 3]) (by kernel_rfl) (by simp) ?_
          refine AllReadyIn.cons rfl (fun K hK => ?_) ?_
          · go_simp
            refine hK _ _ ?_
            clear hK K
            refine wpAnyIn_ready (rs := [2, 3]) (by kernel_rfl) (by simp) ?_
            refine AllReadyIn.cons rfl (fun K hK => ?_) ?_
            · go_simp
              refine hK _ _ ?_
              clear hK K
              refine wpAnyIn_ready (rs := [3]) (by kernel_rfl) (by simp) ?_
              refine AllReadyIn.cons rfl (fun K hK => ?_) ?_
              · go_simp
                refine hK _ _ ?_
                clear hK K
                refine wpAnyIn_listed (listed' := #[true, true, true, true, false, false, false, false]) (by kernel_rfl) ?_
                exact hl
              exact AllReadyIn.nil
            refine AllReadyIn.cons rfl (fun K hK => ?_) ?_
            · go_simp
              refine hK _ _ ?_
              clear hK K
              refine wpAnyIn_ready (rs := [2]) (by kernel_rfl) (by simp) ?_
              refine AllReadyIn.cons rfl (fun K hK => ?_) ?_
              · go_simp
                refine hK _ _ ?_
                clear hK K
                refine wpAnyIn_listed (listed' := #[true, true, true, true, false, false, false, false]) (by kernel_rfl) ?_
                exact hl
              exact AllReadyIn.nil
            exact AllReadyIn.nil
          refine AllReadyIn.cons rfl (fun K hK => ?_) ?_
          · go_simp
            refine hK _ _ ?_
            clear hK K
            refine wpAnyIn_ready (rs := [1, 3]) (by kernel_rfl) (by simp) ?_
            refine AllReadyIn.cons rfl (fun K hK => ?_) ?_
            · go_simp
              refine hK _ _ ?_
              clear hK K
              refine wpAnyIn_ready (rs := [3]) (by kernel_rfl) (by simp) ?_
              refine AllReadyIn.cons rfl (fun K hK => ?_) ?_
              · go_simp
                refine hK _ _ ?_
                clear hK K
                refine wpAnyIn_listed (listed' := #[true, true, true, true, false, false, false, false]) (by kernel_rfl) ?_
                exact hl
              exact AllReadyIn.nil
            refine AllReadyIn.cons rfl (fun K hK => ?_) ?_
            · go_simp
              refine hK _ _ ?_
              clear hK K
              refine wpAnyIn_ready (rs := [1]) (by kernel_rfl) (by simp) ?_
              refine AllReadyIn.cons rfl (fun K hK => ?_) ?_
              · go_simp
                refine hK _ _ ?_
                clear hK K
                refine wpAnyIn_listed (listed' := #[true, true, true, true, false, false, false, false]) (by kernel_rfl) ?_
                exact hl
              exact AllReadyIn.nil
            exact AllReadyIn.nil
          refine AllReadyIn.cons rfl (fun K hK => ?_) ?_
          · go_simp
            refine hK _ _ ?_
            clear hK K
            refine wpAnyIn_ready (rs := [1, 2]) (by kernel_rfl) (by simp) ?_
            refine AllReadyIn.cons rfl (fun K hK => ?_) ?_
            · go_simp
              refine hK _ _ ?_
              clear hK K
              refine wpAnyIn_ready (rs := [2]) (by kernel_rfl) (by simp) ?_
              refine AllReadyIn.cons rfl (fun K hK => ?_) ?_
              · go_simp
                refine hK _ _ ?_
                clear hK K
                refine wpAnyIn_listed (listed' := #[true, true, true, true, false, false, false, false]) (by kernel_rfl) ?_
                exact hl
              exact AllReadyIn.nil
            refine AllReadyIn.cons rfl (fun K hK => ?_) ?_
            · go_simp
              refine hK _ _ ?_
              clear hK K
              refine wpAnyIn_ready (rs := [1]) (by kernel_rfl) (by simp) ?_
              refine AllReadyIn.cons rfl (fun K hK => ?_) ?_
              · go_simp
                refine hK _ _ ?_
                clear hK K
                refine wpAnyIn_listed (listed' := #[true, true, true, true, false, false, false, false]) (by kernel_rfl) ?_
                exact hl
              exact AllReadyIn.nil
            exact AllReadyIn.nil
          exact AllReadyIn.nil
        refine AllReadyIn.cons rfl (fun K hK => ?_) ?_
        · go_simp
          refine hK _ _ ?_
          clear hK K
          refine wpAnyIn_ready (rs := [0, 3]) (by kernel_rfl) (by simp) ?_
          refine AllReadyIn.cons rfl (fun K hK => ?_) ?_
          · go_simp
            refine hK _ _ ?_
            clear hK K
            refine wpAnyIn_ready (rs := [2, 3]) (by kernel_rfl) (by simp) ?_
            refine AllReadyIn.cons rfl (fun K hK => ?_) ?_
            · go_simp
              refine hK _ _ ?_
              clear hK K
              refine wpAnyIn_ready (rs := [3]) (by kernel_rfl) (by simp) ?_
              refine AllReadyIn.cons rfl (fun K hK => ?_) ?_
              · go_simp
                refine hK _ _ ?_
                clear hK K
                refine wpAnyIn_listed (listed' := #[true, true, true, true, false, false, false, false]) (by kernel_rfl) ?_
                exact hl
              exact AllReadyIn.nil
            refine AllReadyIn.cons rfl (fun K hK => ?_) ?_
            · go_simp
              refine hK _ _ ?_
              clear hK K
              refine wpAnyIn_ready (rs := [2]) (by kernel_rfl) (by simp) ?_
              refine AllReadyIn.cons rfl (fun K hK => ?_) ?_
              · go_simp
                refine hK _ _ ?_
                clear hK K
                refine wpAnyIn_listed (listed' := #[true, true, true, true, false, false, false, false]) (by kernel_rfl) ?_
                exact hl
              exact AllReadyIn.nil
            exact AllReadyIn.nil
          refine AllReadyIn.cons rfl (fun K hK => ?_) ?_
          · go_simp
            refine hK _ _ ?_
            clear hK K
            refine wpAnyIn_ready (rs := [0]) (by kernel_rfl) (by simp) ?_
            refine AllReadyIn.cons rfl (fun K hK => ?_) ?_
            · go_simp
              refine hK _ _ ?_
              clear hK K
              refine wpAnyIn_ready (rs := [2]) (by kernel_rfl) (by simp) ?_
              refine AllReadyIn.cons rfl (fun K hK => ?_) ?_
              · go_simp
                refine hK _ _ ?_
                clear hK K
                refine wpAnyIn_listed (listed' := #[true, true, true, true, false, false, false, false]) (by kernel_rfl) ?_
                exact hl
              exact AllReadyIn.nil
            exact AllReadyIn.nil
          exact AllReadyIn.nil
        refine AllReadyIn.cons rfl (fun K hK => ?_) ?_
        · go_simp
          refine hK _ _ ?_
          clear hK K
          refine wpAnyIn_ready (rs := [0, 1]) (by kernel_rfl) (by simp) ?_
          refine AllReadyIn.cons rfl (fun K hK => ?_) ?_
          · go_simp
            refine hK _ _ ?_
            clear hK K
            refine wpAnyIn_ready (rs := [1, 2]) (by kernel_rfl) (by simp) ?_
            refine AllReadyIn.cons rfl (fun K hK => ?_) ?_
            · go_simp
              refine hK _ _ ?_
              clear hK K
              refine wpAnyIn_ready (rs := [2]) (by kernel_rfl) (by simp) ?_
              refine AllReadyIn.cons rfl (fun K hK => ?_) ?_
              · go_simp
                refine hK _ _ ?_
                clear hK K
                refine wpAnyIn_listed (listed' := #[true, true, true, true, false, false, false, false]) (by kernel_rfl) ?_
                exact hl
              exact AllReadyIn.nil
            refine AllReadyIn.cons rfl (fun K hK => ?_) ?_
            · go_simp
              refine hK _ _ ?_
              clear hK K
              refine wpAnyIn_ready (rs := [1]) (by kernel_rfl) (by simp) ?_
              refine AllReadyIn.cons rfl (fun K hK => ?_) ?_
              · go_simp
                refine hK _ _ ?_
                clear hK K
                refine wpAnyIn_listed (listed' := #[true, true, true, true, false, false, false, false]) (by kernel_rfl) ?_
                exact hl
              exact AllReadyIn.nil
            exact AllReadyIn.nil
          refine AllReadyIn.cons rfl (fun K hK => ?_) ?_
          · go_simp
            refine hK _ _ ?_
            clear hK K
            refine wpAnyIn_ready (rs := [0]) (by kernel_rfl) (by simp) ?_
            refine AllReadyIn.cons rfl (fun K hK => ?_) ?_
            · go_simp
              refine hK _ _ ?_
              clear hK K
              refine wpAnyIn_ready (rs := [2]) (by kernel_rfl) (by simp) ?_
              refine AllReadyIn.cons rfl (fun K hK => ?_) ?_
              · go_simp
                refine hK _ _ ?_
                clear hK K
                refine wpAnyIn_listed (listed' := #[true, true, true, true, false, false, false, false]) (by kernel_rfl) ?_
                exact hl
              exact AllReadyIn.nil
            exact AllReadyIn.nil
          exact AllReadyIn.nil
        exact AllReadyIn.nil
        refine wpAnyIn_ready (rs := [4]) (by kernel_rfl) (by simp) ?_
        refine allReadyIn_plain rfl rfl (fun K hK => ?_) ?_
        · refine wpIn_ran _ _ (by rfl) (by rfl) (by rfl) HRUN.out (hK _ _ ?_)
          clear hK K
          refine wpAnyIn_ready (rs := [5, 7]) (by kernel_rfl) (by simp) ?_
          refine allReadyIn_plain rfl rfl (fun K hK => ?_) ?_
          · refine wpIn_index (sz := 4) _ _ (by rfl) Try.underlying62 (by kernel_rfl) (by rfl) (by rfl) (Nat.lt_succ_self _) (hK _ _ ?_)
            clear hK K
            refine wpAnyIn_ready (rs := [6, 7]) (by kernel_rfl) (by simp) ?_
            refine allReadyIn_plain rfl rfl (fun K hK => ?_) ?_
            · refine wpIn_storeMid _ _ _ (by rfl) (by rfl) (by rfl) HTH.out (by kernel_rfl) (by simp [Value.oneCell']) (hK _ _ ?_)
              clear hK K
              refine wpAnyIn_ready (rs := [7]) (by kernel_rfl) (by simp) ?_
              refine allReadyIn_plain rfl rfl (fun K hK => ?_) ?_
              · go_simp
                refine hK _ _ ?_
                clear hK K
                refine wpAnyIn_done (by kernel_rfl) ?_ _
                gi_wp2
                exact HEND.out
              exact AllReadyIn.nil
            refine allReadyIn_plain rfl rfl (fun K hK => ?_) ?_
            · go_simp
              refine hK _ _ ?_
              clear hK K
              refine wpAnyIn_ready (rs := [6]) (by kernel_rfl) (by simp) ?_
              refine allReadyIn_plain rfl rfl (fun K hK => ?_) ?_
              · refine wpIn_storeMid _ _ _ (by rfl) (by rfl) (by rfl) (there_far _ HTH.out HGN.out) (by kernel_rfl) (by simp [Value.oneCell']) (hK _ _ ?_)
                clear hK K
                refine wpAnyIn_done (by kernel_rfl) ?_ _
                rw [setCells_comm _ _ _ HGN.out]
                gi_wp2
                exact HEND.out
              exact AllReadyIn.nil
            exact AllReadyIn.nil
          refine allReadyIn_plain rfl rfl (fun K hK => ?_) ?_
          · go_simp
            refine hK _ _ ?_
            clear hK K
            refine wpAnyIn_ready (rs := [5]) (by kernel_rfl) (by simp) ?_
            refine allReadyIn_plain rfl rfl (fun K hK => ?_) ?_
            · refine wpIn_index (sz := 4) _ _ (by rfl) Try.underlying62 (by kernel_rfl) (by rfl) (by rfl) (Nat.lt_succ_self _) (hK _ _ ?_)
              clear hK K
              refine wpAnyIn_ready (rs := [6]) (by kernel_rfl) (by simp) ?_
              refine allReadyIn_plain rfl rfl (fun K hK => ?_) ?_
              · refine wpIn_storeMid _ _ _ (by rfl) (by rfl) (by rfl) (there_far _ HTH.out HGN.out) (by kernel_rfl) (by simp [Value.oneCell']) (hK _ _ ?_)
                clear hK K
                refine wpAnyIn_done (by kernel_rfl) ?_ _
                rw [setCells_comm _ _ _ HGN.out]
                gi_wp2
                exact HEND.out
              exact AllReadyIn.nil
            exact AllReadyIn.nil
          exact AllReadyIn.nil
        exact AllReadyIn.nil
    case' done =>
      rintro D ys W hD hys ⟨⟨v, hv, hO, hle⟩, hB⟩ hK
      have HOt : Hid (OwnD w.heap.size (w5.heap.size + 1) 64 4 W v (Tm.rows (t.all.take most.toNat))) := Lib.hid (by
        rw [List.take_of_length_le (by rw [← hys, List.length_map]; exact hle), ← hys]; exact hO)
      clear hle hys hO
    case' stop =>
      rintro D c pre W hD hpre ⟨⟨⟨v, hv, hO, hgt⟩, hB⟩, rfl⟩ hK
      have HOt : Hid (OwnD w.heap.size (w5.heap.size + 1) 64 4 W v (Tm.rows (t.all.take most.toNat))) := Lib.hid (by
        obtain ⟨r, hr⟩ := hpre
        have e : t.all.take most.toNat = (pre.map Fx.t).take most.toNat := by rw [← hr, List.take_append_of_le_length (by rw [List.length_map]; omega)]
        rw [e]; exact hO)
      clear hgt hpre hO
      refine wpIn_wide.2 ?_
    all_goals
      have cG := hv.cell
      have fG := hv.frozen
      have HV := Lib.hid hv
      have HB := Lib.hid hB
      have HK := Lib.hid hK
      have HD := Lib.hid hD
      obtain ⟨va, vc, rfl, hvc, hvm⟩ := HOt.out.form
      have hna := HM5.out.len
      rw [Tm.rows_len] at hna
      have HNA := Lib.hid hna.1
      have hca := hna.2.1
      have hcm := hna.2.2
      clear hv hB hK hD hna
      obtain ⟨L, hL⟩ : ∃ L : Nat, L = min most.toNat na := ⟨_, rfl⟩
      have hL1 : (Tm.rows (t.all.take most.toNat)).length = L := by rw [Tm.rows_len, List.length_take, HNA.out, hL]
      rw [hL1] at cG hvc HV HOt
      have HL := Lib.hid hL
      have hLn : L ≤ na := by omega
      have hLc : (L : Int) ≤ ca := by omega
      have hL0 : (0 : Int) ≤ (L : Int) := by omega
      obtain ⟨M, hM⟩ : ∃ M : Int, (if most < (na : Int) then most else (na : Int)) = M := ⟨_, rfl⟩
      have hM2 : (if M < 0 then 0 else M) = (L : Int) := by rw [← hM]; split <;> split <;> omega
      clear hL hL1
      have cM := (HBm5.out.below HB.out HBm5.out.lt).cell (j := 0) rfl
      have HWW : Hid (Below w.heap.size w W) := Lib.hid (HW5.out.trans (HB.out.mono HG5.out))
      have HLL : Hid (t.all.take L = t.all.take most.toNat) := Lib.hid (by
        rw [HL.out]
        rcases Nat.le_total most.toNat na with h1 | h1
        · rw [Nat.min_eq_left h1]
        · rw [Nat.min_eq_right h1, List.take_of_length_le (by rw [HNA.out]; exact Nat.le_refl _), List.take_of_length_le (by rw [HNA.out]; exact h1)])
      have HMA : Hid (MemW W (.s 4 (Tm.rows (t.all.take most.toNat))) (.slice aa L ca)) := Lib.hid (by
        have h1 := Mem.take L hLn HM5.out ca (by omega) (Nat.le_refl _)
        have e : (Tm.rows t.all).take L = Tm.rows (t.all.take most.toNat) := by rw [← HLL.out, Tm.rows_eq, Tm.rows_eq, List.map_take]
        rw [e] at h1
        exact h1.mono (fun b hb => Nat.lt_of_lt_of_le hb.2 HB.out.size) (fun b hb => HB.out.block b hb.2))
      go_wp2
      go_still_tail 14, (by kernel_rfl)
      change wpList _ _ _ _ _ W.drew
      clear hM hM2 cG fG cM
      go_wp2_with (first
        | (go_at_call 64
           refine (sameTerms_any W.drew (HOt.out.memW.drew) (HMA.out.drew)).mono ?_
           rintro e w7 ⟨rfl, hb⟩
           rw [decide_eq_true (p := t.all.take most.toNat = t.all.take most.toNat) rfl]
           have HX7 : Hid (Below W.heap.size W w7) := Lib.hid (Below.one hb)
           have HY7 : Hid (Below w.heap.size w w7) := Below.to HWW.out HX7.out
           have HT7 := Lib.hid ((HBt5.out.below HB.out HBt5.out.lt).keep HX7.out)
           obtain ⟨t0, t1, t2, t3⟩ := HT7.out.c4
           clear hb)
        | (go_at_call 65
           refine (vars3_any (l := [t]) _ (one_mem rfl t (MemW.keep Ht.out HY7.out)) HA1.out).mono ?_
           rintro e w8 ⟨ab, nb, cb, rfl, hb, hm⟩
           have hnb := hm.len
           rw [intRows_len, HGV.out] at hnb
           have HNB := Lib.hid hnb.1
           have hcb := hnb.2.1
           have hcm := hnb.2.2
           have hgr : ((nb : Int) == 0) = groundB t := by rw [← HGR.out]; rw [← HNB.out]
           have HX8 : Hid (Below W.heap.size W w8) := Below.toA HX7.out hb
           have HY8 : Hid (Below w.heap.size w w8) := Below.toA HY7.out hb
           have HT8 := Lib.hid ((HT7.out.alloc _).keep hb)
           have HU8 := Lib.hid ((HBu5.out.below HB.out HBu5.out.lt).keep HX8.out)
           clear t0 t1 t2 t3
           obtain ⟨t0, t1, t2, t3⟩ := HT8.out.c4
           obtain ⟨u0, u1, u2, u3⟩ := HU8.out.c4
           clear hb hm hnb)
        | (go_at_call 66
           refine (compare3_any t u _ _ _ _ _ _ _ (MemW.keep Ht.out HY8.out) (MemW.keep Hu.out HY8.out)).mono ?_
           rintro e w9 ⟨rfl, hb⟩
           have HX9 : Hid (Below W.heap.size W w9) := Below.to HX8.out hb
           have HY9 : Hid (Below w.heap.size w w9) := Below.to HY8.out hb
           have HT9 := Lib.hid (HT8.out.keep hb)
           have HU9 := Lib.hid (HU8.out.keep hb)
           clear t0 t1 t2 t3 u0 u1 u2 u3 hb))
      obtain ⟨t0, t1, t2, t3⟩ := HT9.out.c4
      obtain ⟨u0, u1, u2, u3⟩ := HU9.out.c4
      have HD9 : Hid (Below w.heap.size w w9.drew) := below_drewN HY9.out 1
      have HSN : Hid (t.size = na) := Lib.hid HNA.out
      go_region_held3 (fun w' => w'.cell? ⟨w.heap.size, 0, none⟩ = some (.int .i64 t.kind) ∧ w'.cell? ⟨w.heap.size, 1, none⟩ = some (.string t.name) ∧ w'.cell? ⟨w.heap.size, 2, none⟩ = some (.int .i64 t.n) ∧ w'.cell? ⟨w.heap.size, 3, none⟩ = some (.slice a n cap) ∧ w'.cell? ⟨w.heap.size + 1, 0, none⟩ = some (.int .i64 u.kind) ∧ w'.cell? ⟨w.heap.size + 1, 1, none⟩ = some (.string u.name) ∧ w'.cell? ⟨w.heap.size + 1, 2, none⟩ = some (.int .i64 u.n) ∧ w'.cell? ⟨w.heap.size + 1, 3, none⟩ = some (.slice a' n' cap'))
      ((repeat' apply And.intro) <;> (repeat (first | with_reducible assumption | with_reducible refine cell_drew ?_ | with_reducible refine cell_alloc _ ?_ | with_reducible refine cell_row_far _ ?_ (by omega) | with_reducible refine cell_below ?_ HBk.out | with_reducible refine cell_below ?_ HBh.out | with_reducible refine cell_below ?_ HBg.out | with_reducible refine cell_below ?_ HBf.out | with_reducible refine cell_below ?_ HBd.out | with_reducible refine cell_below ?_ HBc.out | with_reducible refine cell_below ?_ HBb.out | with_reducible refine cell_below ?_ HBa.out)))
      (first
        | (go_at_call 67
           refine (showMt HOK.out HWT.out _ _ _ _ (MemW.keep Ht.out HD9.out)).mono ?_
           rintro e wa ⟨rfl, hb⟩
           have HBa := Lib.hid (Below.one hb)
           have HXa : Hid (Below W.heap.size W wa) := Below.to HX9.out HBa.out
           have HYa : Hid (Below w.heap.size w wa) := Below.to HY9.out HBa.out
           clear hb)
        | (go_at_call 68
           refine (showRt HOK.out HWT.out _ _ _ _ (MemW.keep Ht.out HYa.out)).mono ?_
           rintro e wb ⟨rfl, hb⟩
           have HBb := Lib.hid hb
           have HXb : Hid (Below W.heap.size W wb) := Below.to HXa.out HBb.out
           have HYb : Hid (Below w.heap.size w wb) := Below.to HYa.out HBb.out
           clear hb)
        | (go_at_call 69
           refine (size_any 1048576 t _ _ _ _ HTS.out (Nat.le_refl _) (MemW.keep Ht.out HYb.out)).mono ?_
           rintro e wc ⟨rfl, hb⟩
           rw [HSN.out]
           have HBc := Lib.hid hb
           have HXc : Hid (Below W.heap.size W wc) := Below.to HXb.out HBc.out
           have HYc : Hid (Below w.heap.size w wc) := Below.to HYb.out HBc.out
           clear hb)
        | (go_at_call 70
           refine (depth_any 1048576 t _ _ _ _ HTS.out (Nat.le_refl _) (MemW.keep Ht.out HYc.out)).mono ?_
           rintro e wd ⟨rfl, hb⟩
           have HBd := Lib.hid hb
           have HXd : Hid (Below W.heap.size W wd) := Below.to HXc.out HBd.out
           have HYd : Hid (Below w.heap.size w wd) := Below.to HYc.out HBd.out
           clear hb)
        | (go_at_call 71
           refine (depth3_any 1048576 t _ _ _ _ HTS.out (Nat.le_refl _) (MemW.keep Ht.out HYd.out)).mono ?_
           rintro e wf ⟨rfl, hb⟩
           have HBf := Lib.hid hb
           have HXf : Hid (Below W.heap.size W wf) := Below.to HXd.out HBf.out
           have HYf : Hid (Below w.heap.size w wf) := Below.to HYd.out HBf.out
           clear hb)
        | (go_at_call 72
           refine (ground_any _ (MemW.keep Ht.out HYf.out)).mono ?_
           rintro e wg ⟨rfl, hb⟩
           have HBg := Lib.hid hb
           have HXg : Hid (Below W.heap.size W wg) := Below.to HXf.out HBg.out
           have HYg : Hid (Below w.heap.size w wg) := Below.to HYf.out HBg.out
           clear hb)
        | (go_at_call 50
           refine (compare_any t u _ _ _ _ _ _ _ (MemW.keep Ht.out HYg.out) (MemW.keep Hu.out HYg.out)).mono ?_
           rintro e wh ⟨rfl, hb⟩
           have HBh := Lib.hid hb
           have HXh : Hid (Below W.heap.size W wh) := Below.to HXg.out HBh.out
           have HYh : Hid (Below w.heap.size w wh) := Below.to HYg.out HBh.out
           clear hb)
        | (go_at_call 73
           refine (sameTm_any _ (MemW.keep Ht.out HYh.out) (MemW.keep Hu.out HYh.out)).mono ?_
           rintro e wk ⟨rfl, hb⟩
           have HBk := Lib.hid hb
           have HXk : Hid (Below W.heap.size W wk) := Below.to HXh.out HBk.out
           have HYk : Hid (Below w.heap.size w wk) := Below.to HYh.out HBk.out
           clear hb)
        )
      all_goals
        go_wp2
        refine ⟨by simp, .inl ⟨_, _, rfl, run_takeDeferred ((HXk.out.block D (Array.getElem?_eq_some_iff.1 HK.out).1).trans HK.out), ?_⟩⟩
        refine ⟨_, results_tmp rfl _ _ _, rfl, HYk.out.trans (belowK_b (w := w) (Nat.le_refl _) _ D _ _ (by have := HD.out; have := HW6.out.size; omega) ((HXk.out.block D (Array.getElem?_eq_some_iff.1 HK.out).1).trans HK.out) rfl rfl)⟩
end Go.Proofs.Ytemkpecagflafaa
