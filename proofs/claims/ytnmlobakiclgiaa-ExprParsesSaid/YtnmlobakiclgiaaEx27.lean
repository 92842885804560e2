/-
  Tokens that are read, as a row; and one token appended to a row of the call's own. Plain lemmas. No condition.
-/
import Derived.Test.YtnmlobakiclgiaaEx24
import Derived.Test.YtnmlobakiclgiaaEx15
import Derived.Test.YtnmlobakiclgiaaEx26
namespace Go.Proofs.Ytnmlobakiclgiaa
open Go.RowKit
theorem tokVs_at {j : Nat} (hj : j < 5) : ∀ (l : List Tok) (i : Nat) (hi : i < l.length), (tokVs l)[i * 5 + j]? = some ((tokR l[i])[j]'(by rw [tokR_len]; exact hj)) := by
  intro l
  induction l with
  | nil => intro i hi; simp at hi
  | cons t l ih =>
    intro i hi
    have ec : tokVs (t :: l) = tokR t ++ tokVs l := by simp [tokVs]
    rw [ec]
    cases i with
    | zero =>
      rw [Nat.zero_mul, Nat.zero_add, List.getElem?_append_left (by rw [tokR_len]; exact hj), List.getElem?_eq_getElem (by rw [tokR_len]; exact hj)]
      rfl
    | succ i =>
      rw [List.getElem?_append_right (by rw [tokR_len]; omega), tokR_len, show (i + 1) * 5 + j - 5 = i * 5 + j by omega, ih i (by simpa using hi)]
      simp
theorem rd_mem {w : World} {a : Option Addr} {n cap : Nat} {ts : List Tok} (h : Rd w.heap.size w a n cap 5 (tokVs ts)) (hn : ts ≠ []) : MemW w (.s 5 (tkRows (ts.map tkOf))) (.slice a n cap) := by
  obtain ⟨h1, h2, h3, h4⟩ := h
  rw [tokVs_len] at h1
  have hlen : ts.length = n := by omega
  have hpos := List.length_pos_iff.2 hn
  rcases h4 with h4 | ⟨b, o, rfl, hb, hc⟩
  · omega
  · have hl : (tkRows (ts.map tkOf)).length = n := by rw [tkRows_len, List.length_map, hlen]
    have hat : ∀ i (hi : i < (tkRows (ts.map tkOf)).length), (tkRows (ts.map tkOf))[i] = tkRow (tkOf (ts[i]'(by omega))) := fun i hi => by simp [tkRows]
    refine .s b o n cap 5 _ (fun i j => ((tokVs ts)[i * 5 + j]?).getD undef) hl h2 h3 hb (fun i hi => by rw [hat i hi]; rfl) (fun i j hi hj => ?_) (fun i j hi hj => ?_)
    · have h5 : i * 5 + j < (tokVs ts).length := by rw [tokVs_len]; omega
      rw [Nat.add_assoc, hc (i * 5 + j) h5, List.getElem?_eq_getElem h5]; rfl
    · have e := hat i hi
      have hj5 : j < 5 := by rw [e] at hj; exact hj
      have e2 : ((tkRows (ts.map tkOf))[i])[j] = (tkRow (tkOf (ts[i]'(by omega))))[j]'(by exact hj5) := by simp only [e]; rfl
      rw [e2, tokVs_at hj5 ts i (by omega)]
      match j, hj5 with
      | 0, _ => exact .v _ rfl
      | 1, _ => exact .v _ rfl
      | 2, _ => exact .v _ rfl
      | 3, _ => exact .v _ rfl
      | 4, _ => exact .v _ rfl
theorem info_tokE : (Try.prog.info? 43).map (fun i => (i.zero, i.size, i.bytes)) = some (some (.agg #[.int .i64 0, .string .empty, .int .i64 0, .int .i64 0, .int .i64 0]), 5, 48) := by kernel_rfl
theorem tk_all {S : Nat → Prop} {w : World} (t : Tk) : All2 (Mem S w) (tkRow t) [.int .i64 t.k, .string t.s, .int .i64 t.n, .int .i64 t.l, .int .i64 t.c] :=
  .cons (.v _ rfl) (.cons (.v _ rfl) (.cons (.v _ rfl) (.cons (.v _ rfl) (.cons (.v _ rfl) .nil))))
theorem tkRowS {base : Nat} {w W : World} {y : Value} {rs : List (List At)} (h : OwnS (fun _ => True) base 43 5 W y rs) (t : Tk) (hs : W.heap.size ≤ w.heap.size) {g : Nat} (hg : w.heap.size = g) :
    Mem (fun b => NwS (fun _ => True) (w.alloc (.cells #[.int .i64 t.k, .string t.s, .int .i64 t.n, .int .i64 t.l, .int .i64 t.c] 43)).heap.size b ∧ y.ownBlock ≠ some b) (w.alloc (.cells #[.int .i64 t.k, .string t.s, .int .i64 t.n, .int .i64 t.l, .int .i64 t.c] 43)) (.s 5 (tkRows [t])) (.slice (some ⟨g, 0, none⟩) 1 1) := by
  subst hg
  have hb := OwnS.built (A := fun _ => False) (base := w.heap.size) (e := 43) (sz := 5) (w := w) (rs := tkRows [t]) (css := [[.int .i64 t.k, .string t.s, .int .i64 t.n, .int .i64 t.l, .int .i64 t.c]]) (.cons ⟨rfl, tk_all t⟩ .nil) (Nat.le_refl _) 1 rfl (by decide) #[.int .i64 t.k, .string t.s, .int .i64 t.n, .int .i64 t.l, .int .i64 t.c] rfl
  refine hb.mem.mono (fun b hb => ?_) fun _ _ => rfl
  have h1 : False ∨ w.heap.size ≤ b := hb.1
  have h2 := hb.2
  rw [World.size_alloc] at h2
  have h3 : b = w.heap.size := by have := h1.resolve_left id; omega
  subst h3
  refine ⟨⟨trivial, hb.2⟩, fun e => ?_⟩
  have := h.lt _ e
  omega
theorem filt_succ {ts : List Tok} {k : Nat} (h : k < ts.length) : (ts.take (k + 1)).filter keepT = (ts.take k).filter keepT ++ (if keepT ts[k] then [ts[k]] else []) := by
  rw [List.take_add_one, List.getElem?_eq_getElem h, List.filter_append]
  congr 1
  simp only [Option.toList_some, List.filter_cons, List.filter_nil]
end Go.Proofs.Ytnmlobakiclgiaa
