/-
  subst.Tuple: an answer as a term. No condition but how it lies, and how great it is.
-/
import Derived.Test.YtmadfkofmehfkaaAt20
import Derived.Test.YtmadfkofmehfkaaAt22
import Derived.Test.YtmadfkofmehfkaaAt6
import Derived.Deep.RegionHeld3
namespace Go.Proofs.Ytmadfkofmehfkaa
open Go.RowKit
theorem store_tmU {dst : Option Nat} {ty : TypeId} {pos : String} {after : Array Edge} {guard : Option (Nat × Bool)} {x y : Operand} {a : Act} {w : World} {K : Act → World → Prop} {Q : Exit → Act → World → Prop} (h : StOk 24 4 w (a.eval x) (a.eval y)) :
    Oper.wp Try.prog { dst := dst, op := .store 24 x y, type := ty, pos := pos, after := after, guard := guard } a w K Q = K (a.put dst undef) (w.setRow (stB (a.eval x)) (stC (a.eval y))) := wp_store_T rfl (by kernel_rfl) h
theorem stOk_tmU {w : World} {g m c : Nat} {k n : Int} {s : ByteArray} {a : Option Addr} : StOk 24 4 w (.pointer (some ⟨g, 0, none⟩)) (.agg #[.int .i64 k, .string s, .int .i64 n, .slice a m c]) = Wr w g 24 4 := stOk_eq rfl (by simp [Value.oneCell'])
attribute [local go_sem ↓] store_tmU
attribute [local go_sem] stOk_tmU
attribute [local go_sem] stB_eq stC_eq wr_drew wr_alloc wr_row

theorem tup_app2 {W1 wx : World} {B base : Nat} {x : Tm} {ax : Option Addr} {nx capx : Nat} {rs : List (List At)} {y : Value} (hBb : B ≤ base) (hD : Dr (W1.alloc (.cells #[.int .i64 x.kind, .string x.name, .int .i64 x.n, .slice ax nx capx] 24)) wx) {G : Nat} (hG : G = W1.heap.size)
    (hO : OwnD B base 24 4 W1 y rs) (hX : Mem (· < B) W1 (.s 4 (Tm.rows x.args)) (.slice ax nx capx)) (hb : base ≤ W1.heap.size) (hm : rs.length ≤ 1048576) :
    ∃ v' w', (Builtin.append_ #[22, 22] 22 #[y, .slice (some ⟨G, 0, none⟩) 1 1]).run Try.prog wx = .ok v' w' ∧ (∃ a' c', v' = .slice a' (rs.length + (Tm.rows [x]).length) c' ∧ OwnD B base 24 4 w' v' (rs ++ Tm.rows [x]) ∧ Below base W1 w') := by
  subst hG
  have hs : wx.heap.size = W1.heap.size + 1 := by rw [hD.1, World.size_alloc]
  have hB0 : Below W1.heap.size W1 wx := hD.below (below_new W1 _)
  have hO' : OwnD B base 24 4 wx y rs := hO.keep hB0
  have hO1 := own_one (e' := 24) x hO hb (hO.old hBb hb hX)
  have hM : Mem (fun b => Nw B base wx.heap.size b ∧ y.ownBlock ≠ some b) wx (.s 4 (Tm.rows [x])) (.slice (some ⟨W1.heap.size, 0, none⟩) 1 1) := hO1.mono (fun b hb => ⟨by rw [hs]; rw [World.size_alloc] at hb; exact hb.1, hb.2⟩) fun b _ => by rw [hD.1]
  obtain ⟨v', w', hr, h2, h3, _⟩ := run_append_D2 (P := Try.prog) 22 Try.underlying22 info_term rfl (by decide) hO' hM (by simp only [Tm.rows, List.length_cons, List.length_nil]; omega) (by simp only [Tm.rows, List.length_cons, List.length_nil]; omega) (by omega)
  obtain ⟨a', c', rfl, _, _⟩ := h2.form
  exact ⟨_, w', hr, a', c', by rw [List.length_append], h2, grown_below (hB0.mono hb) h3 hb fun k hk => (hO.lt k hk).1⟩
theorem OwnD.down {B base base' : Nat} {e : TypeId} {sz : Nat} {w : World} {y : Value} {rs : List (List At)} (h : OwnD B base e sz w y rs) (hb : base' ≤ base) : OwnD B base' e sz w y rs := by
  obtain ⟨css, ho, hm⟩ := h
  refine ⟨css, ⟨ho.1, ?_⟩, hm.imp fun r cs' ⟨hc, hm⟩ => ⟨hc, hm.imp fun x y' hx => hx.mono (fun b ⟨⟨h1, h3⟩, h2⟩ => ⟨⟨h1.imp id fun h4 => Nat.le_trans hb h4, h3⟩, h2⟩) fun b _ => rfl⟩⟩
  rcases ho.2 with hn | ⟨g', cap, cur, rfl, hb', rest⟩
  · exact .inl hn
  · exact .inr ⟨g', cap, cur, rfl, Nat.le_trans hb hb', rest⟩
theorem tup_app3 {W1 wx : World} {B base G : Nat} {rs new : List (List At)} {y : Value} {a : Option Addr} {m c : Nat} (hBG : B ≤ G) (hG : G < base) (hD : Dr W1 wx) (hO : OwnD B base 24 4 W1 y rs) (hX : Mem (fun b => b < B ∨ b = G) W1 (.s 4 new) (.slice a m c)) (hb : base ≤ W1.heap.size) (hm : rs.length + new.length ≤ 1048577) :
    ∃ v' w', (Builtin.append_ #[22, 22] 22 #[y, .slice a m c]).run Try.prog wx = .ok v' w' ∧ (∃ a' c', v' = .slice a' (rs.length + new.length) c' ∧ OwnD B G 24 4 w' v' (rs ++ new) ∧ Below base W1 w') := by
  have hs : wx.heap.size = W1.heap.size := by rw [hD.1]
  have hB0 : Below W1.heap.size W1 wx := hD.below (Below.refl _ _)
  have hO' : OwnD B G 24 4 wx y rs := (hO.keep hB0).down (by omega)
  have hM : Mem (fun b => Nw B G wx.heap.size b ∧ y.ownBlock ≠ some b) wx (.s 4 new) (.slice a m c) := hX.mono (fun b hb' => ⟨⟨hb'.imp id fun h => by omega, by omega⟩, fun e => by have := (hO.lt b e).1; omega⟩) fun b _ => by rw [hD.1]
  obtain ⟨v', w', hr, h2, h3, _⟩ := run_append_D2 (P := Try.prog) 22 Try.underlying22 info_term rfl (by decide) hO' hM (by omega) (by omega) (by omega)
  obtain ⟨a', c', rfl, _, _⟩ := h2.form
  exact ⟨_, w', hr, a', c', by rw [List.length_append], h2, grown_below (hB0.mono hb) h3 hb fun k hk => (hO.lt k hk).1⟩
theorem one_memB {w : World} {B : Nat} (hB : B ≤ w.heap.size) (x : Tm) {a : Option Addr} {n cap : Nat} (h : Mem (· < B) w (.s 4 (Tm.rows x.args)) (.slice a n cap)) : Mem (fun b => b < B ∨ b = w.heap.size) (w.alloc (.cells #[.int .i64 x.kind, .string x.name, .int .i64 x.n, .slice a n cap] 24)) (.s 4 (Tm.rows [x])) (.slice (some ⟨w.heap.size, 0, none⟩) 1 1) :=
  (tm_one (B := B) (base := w.heap.size) x (Mem.mono h (fun b hb => ⟨.inl hb, Nat.lt_of_lt_of_le hb hB⟩) fun _ _ => rfl) (Nat.le_refl _)).mem.mono (fun b hb => hb.1.imp id fun h => by have := hb.2; rw [World.size_alloc] at this; omega) fun _ _ => rfl
/-- An answer as a term. -/
def tupT (x : Ans) : Tm := .mk 1 ⟨#[]⟩ 0 x.all
set_option maxRecDepth 100000 in
set_option maxHeartbeats 20000000 in
theorem tuple_any {x : Ans} {ab ax : Option Addr} {nb cb nx capx : Nat} (w : World) (hb : MemW w (.s 4 (Tm.rows x.binds)) (.slice ab nb cb)) (hv : MemW w (.s 4 (Tm.rows x.value.args)) (.slice ax nx capx)) (hn : nb ≤ 100000) :
    Calls Try.prog 51 #[.agg #[.slice ab nb cb, .int .i64 x.value.kind, .string x.value.name, .int .i64 x.value.n, .slice ax nx capx]] w fun e w' => ∃ a n c, e = .returned (.agg #[.int .i64 1, .string ⟨#[]⟩, .int .i64 0, .slice a n c]) ∧ Below w.heap.size w w' ∧ MemW w' (.s 4 (Tm.rows x.all)) (.slice a n c) := by
  have HB0 := Lib.hid ((below_new w (.cells #[.slice ab nb cb, .int .i64 x.value.kind, .string x.value.name, .int .i64 x.value.n, .slice ax nx capx] 48)).alloc (below_new w (.cells #[.slice ab nb cb, .int .i64 x.value.kind, .string x.value.name, .int .i64 x.value.n, .slice ax nx capx] 48)).size (.cells #[.int .i64 0, .string ⟨#[]⟩, .int .i64 0, .slice none 0 0] 24))
  have HX := Lib.hid ((Bo.new w 48 #[.slice ab nb cb, .int .i64 x.value.kind, .string x.value.name, .int .i64 x.value.n, .slice ax nx capx]).alloc (.cells #[.int .i64 0, .string ⟨#[]⟩, .int .i64 0, .slice none 0 0] 24))
  have HY := Lib.hid (World.size_alloc w (.cells #[.slice ab nb cb, .int .i64 x.value.kind, .string x.value.name, .int .i64 x.value.n, .slice ax nx capx] 48) ▸ Bo.new (w.alloc (.cells #[.slice ab nb cb, .int .i64 x.value.kind, .string x.value.name, .int .i64 x.value.n, .slice ax nx capx] 48)) 24 #[.int .i64 0, .string ⟨#[]⟩, .int .i64 0, .slice none 0 0])
  have HZ : Hid ((((w.alloc (.cells #[.slice ab nb cb, .int .i64 x.value.kind, .string x.value.name, .int .i64 x.value.n, .slice ax nx capx] 48)).alloc (.cells #[.int .i64 0, .string ⟨#[]⟩, .int .i64 0, .slice none 0 0] 24))).heap.size = w.heap.size + 2) := Lib.hid (by simp)
  have GB2 := Lib.hid (Mem.keep hb (Nat.le_refl _) HB0.out)
  have GV2 := Lib.hid (Mem.keep hv (Nat.le_refl _) HB0.out)
  have HLM : Hid (Mem (fun b => b < w.heap.size ∨ b = w.heap.size + 2) ((((w.alloc (.cells #[.slice ab nb cb, .int .i64 x.value.kind, .string x.value.name, .int .i64 x.value.n, .slice ax nx capx] 48)).alloc (.cells #[.int .i64 0, .string ⟨#[]⟩, .int .i64 0, .slice none 0 0] 24))).alloc (.cells #[.int .i64 x.value.kind, .string x.value.name, .int .i64 x.value.n, .slice ax nx capx] 24)) (.s 4 (Tm.rows [x.value])) (.slice (some ⟨w.heap.size + 2, 0, none⟩) 1 1)) := Lib.hid (by have := one_memB (by have := HZ.out; omega) x.value GV2.out; rw [HZ.out] at this; exact this)
  have hbl := hb.len.1
  rw [Tm.rows_len] at hbl
  have HBL : Hid ((Tm.rows x.binds).length ≤ 1048576) := Lib.hid (by rw [Tm.rows_len]; omega)
  have HRL : Hid ((Tm.rows x.binds).length = nb) := Lib.hid (by rw [Tm.rows_len]; exact hbl)
  have HN := Lib.hid hn
  have z0 : (((w.alloc (.cells #[.slice ab nb cb, .int .i64 x.value.kind, .string x.value.name, .int .i64 x.value.n, .slice ax nx capx] 48)).alloc (.cells #[.int .i64 0, .string ⟨#[]⟩, .int .i64 0, .slice none 0 0] 24))).cell? ⟨w.heap.size, 0, none⟩ = some (.slice ab nb cb) := HX.out.cell (j := 0) rfl
  have z1 : (((w.alloc (.cells #[.slice ab nb cb, .int .i64 x.value.kind, .string x.value.name, .int .i64 x.value.n, .slice ax nx capx] 48)).alloc (.cells #[.int .i64 0, .string ⟨#[]⟩, .int .i64 0, .slice none 0 0] 24))).cell? ⟨w.heap.size, 1, none⟩ = some (.int .i64 x.value.kind) := HX.out.cell (j := 1) rfl
  have z2 : (((w.alloc (.cells #[.slice ab nb cb, .int .i64 x.value.kind, .string x.value.name, .int .i64 x.value.n, .slice ax nx capx] 48)).alloc (.cells #[.int .i64 0, .string ⟨#[]⟩, .int .i64 0, .slice none 0 0] 24))).cell? ⟨w.heap.size, 2, none⟩ = some (.string x.value.name) := HX.out.cell (j := 2) rfl
  have z3 : (((w.alloc (.cells #[.slice ab nb cb, .int .i64 x.value.kind, .string x.value.name, .int .i64 x.value.n, .slice ax nx capx] 48)).alloc (.cells #[.int .i64 0, .string ⟨#[]⟩, .int .i64 0, .slice none 0 0] 24))).cell? ⟨w.heap.size, 3, none⟩ = some (.int .i64 x.value.n) := HX.out.cell (j := 3) rfl
  have z4 : (((w.alloc (.cells #[.slice ab nb cb, .int .i64 x.value.kind, .string x.value.name, .int .i64 x.value.n, .slice ax nx capx] 48)).alloc (.cells #[.int .i64 0, .string ⟨#[]⟩, .int .i64 0, .slice none 0 0] 24))).cell? ⟨w.heap.size, 4, none⟩ = some (.slice ax nx capx) := HX.out.cell (j := 4) rfl
  clear hb hv hbl hn
  go_enter Try.func51, Try.ntmps51
  go_wp2
  go_region_held3 (fun w' => w'.cell? ⟨w.heap.size, 0, none⟩ = some (.slice ab nb cb) ∧ w'.cell? ⟨w.heap.size, 1, none⟩ = some (.int .i64 x.value.kind) ∧ w'.cell? ⟨w.heap.size, 2, none⟩ = some (.string x.value.name) ∧ w'.cell? ⟨w.heap.size, 3, none⟩ = some (.int .i64 x.value.n) ∧ w'.cell? ⟨w.heap.size, 4, none⟩ = some (.slice ax nx capx))
    ((repeat' apply And.intro) <;> (repeat (first | with_reducible assumption | with_reducible refine cell_drew ?_ | with_reducible refine cell_alloc _ ?_ | with_reducible refine cell_row_far _ ?_ (by omega) | with_reducible refine cell_below ?_ HB5.out)))
    (first
      | (go_at_call 63 ; refine (cloneB_any (B := w.heap.size) (ts := x.binds) (((w.alloc (.cells #[.slice ab nb cb, .int .i64 x.value.kind, .string x.value.name, .int .i64 x.value.n, .slice ax nx capx] 48)).alloc (.cells #[.int .i64 0, .string ⟨#[]⟩, .int .i64 0, .slice none 0 0] 24))).drew (by have h1 := HZ.out; have h2 : (((w.alloc (.cells #[.slice ab nb cb, .int .i64 x.value.kind, .string x.value.name, .int .i64 x.value.n, .slice ax nx capx] 48)).alloc (.cells #[.int .i64 0, .string ⟨#[]⟩, .int .i64 0, .slice none 0 0] 24))).drew.heap.size = (((w.alloc (.cells #[.slice ab nb cb, .int .i64 x.value.kind, .string x.value.name, .int .i64 x.value.n, .slice ax nx capx] 48)).alloc (.cells #[.int .i64 0, .string ⟨#[]⟩, .int .i64 0, .slice none 0 0] 24))).heap.size := rfl; omega) GB2.out.drew HN.out).mono ?_; rintro e w5 ⟨y5, rfl, ho5, hb5⟩; obtain ⟨a5, c5, rfl, _, _⟩ := ho5.form; have HO5 := Lib.hid ho5; have HB5 := Lib.hid (Below.one hb5); clear ho5 hb5)
      | (go_at_call 63 ; refine (cloneB_any (B := w.heap.size) (ts := x.binds) ((((w.alloc (.cells #[.slice ab nb cb, .int .i64 x.value.kind, .string x.value.name, .int .i64 x.value.n, .slice ax nx capx] 48)).alloc (.cells #[.int .i64 0, .string ⟨#[]⟩, .int .i64 0, .slice none 0 0] 24))).alloc (.cells #[.int .i64 x.value.kind, .string x.value.name, .int .i64 x.value.n, .slice ax nx capx] 24)).drew (by have h1 := HZ.out; have h2 : ((((w.alloc (.cells #[.slice ab nb cb, .int .i64 x.value.kind, .string x.value.name, .int .i64 x.value.n, .slice ax nx capx] 48)).alloc (.cells #[.int .i64 0, .string ⟨#[]⟩, .int .i64 0, .slice none 0 0] 24))).alloc (.cells #[.int .i64 x.value.kind, .string x.value.name, .int .i64 x.value.n, .slice ax nx capx] 24)).drew.heap.size = (((w.alloc (.cells #[.slice ab nb cb, .int .i64 x.value.kind, .string x.value.name, .int .i64 x.value.n, .slice ax nx capx] 48)).alloc (.cells #[.int .i64 0, .string ⟨#[]⟩, .int .i64 0, .slice none 0 0] 24))).heap.size + 1 := World.size_alloc _ _; omega) (Mem.drew (GB2.out.keep (Nat.le_refl _) ((below_new _ _).mono (by have h1 := HZ.out; omega)))) HN.out).mono ?_; rintro e w5 ⟨y5, rfl, ho5, hb5⟩; obtain ⟨a5, c5, rfl, _, _⟩ := ho5.form; have HO5b := Lib.hid ho5; have HB5 := Lib.hid (Below.one hb5); clear ho5 hb5)
      | (refine stepx_app (by rfl) (.tmp 5) (.tmp 8) (by rfl) (by rfl) (by rfl) (tup_app2 (W1 := w5) (B := w.heap.size) (base := (((w.alloc (.cells #[.slice ab nb cb, .int .i64 x.value.kind, .string x.value.name, .int .i64 x.value.n, .slice ax nx capx] 48)).alloc (.cells #[.int .i64 0, .string ⟨#[]⟩, .int .i64 0, .slice none 0 0] 24))).heap.size) (by have h1 := HZ.out; omega) (by exact ⟨rfl, rfl, rfl, rfl⟩) rfl HO5.out (Mem.keep GV2.out (Nat.le_refl _) (HB5.out.mono (by have h1 := HZ.out; omega))) HB5.out.size HBL.out) ?_; rintro v6 w6 ⟨a6, c6, rfl, hm6, hb6⟩; have HM6 := Lib.hid hm6; have HB56 := Lib.hid (HB5.out.trans hb6); clear hm6 hb6; have s0 := cell_below z0 HB56.out; have s1 := cell_below z1 HB56.out; have s2 := cell_below z2 HB56.out; have s3 := cell_below z3 HB56.out; have s4 := cell_below z4 HB56.out; have HY6 := Lib.hid (HY.out.keep HB56.out); have hwr : Wr w6 (w.heap.size + 1) 24 4 := HY6.out.wr; have hz6 := HY6.out.lt)
      | (refine stepx_app (by rfl) (.tmp 5) (.tmp 8) (by rfl) (by rfl) (by rfl) (tup_app3 (W1 := w5) (B := w.heap.size) (G := w.heap.size + 2) (base := ((((w.alloc (.cells #[.slice ab nb cb, .int .i64 x.value.kind, .string x.value.name, .int .i64 x.value.n, .slice ax nx capx] 48)).alloc (.cells #[.int .i64 0, .string ⟨#[]⟩, .int .i64 0, .slice none 0 0] 24))).alloc (.cells #[.int .i64 x.value.kind, .string x.value.name, .int .i64 x.value.n, .slice ax nx capx] 24)).heap.size) (by omega) (by rw [World.size_alloc, HZ.out]; omega) (by exact ⟨rfl, rfl, rfl, rfl⟩) HO5b.out (HLM.out.mono (fun b hb => hb) fun b hb => HB5.out.block b (by rw [World.size_alloc, HZ.out]; rcases hb with hb | hb <;> omega)) HB5.out.size (by have := HBL.out; simp only [Tm.rows, List.length_cons, List.length_nil]; omega)) ?_; rintro v6 w6 ⟨a6, c6, rfl, hm6, hb6⟩; have HM6 := Lib.hid hm6; have HB56 := Lib.hid ((below_new (((w.alloc (.cells #[.slice ab nb cb, .int .i64 x.value.kind, .string x.value.name, .int .i64 x.value.n, .slice ax nx capx] 48)).alloc (.cells #[.int .i64 0, .string ⟨#[]⟩, .int .i64 0, .slice none 0 0] 24))) (.cells #[.int .i64 x.value.kind, .string x.value.name, .int .i64 x.value.n, .slice ax nx capx] 24)).trans ((HB5.out.trans hb6).mono (below_new (((w.alloc (.cells #[.slice ab nb cb, .int .i64 x.value.kind, .string x.value.name, .int .i64 x.value.n, .slice ax nx capx] 48)).alloc (.cells #[.int .i64 0, .string ⟨#[]⟩, .int .i64 0, .slice none 0 0] 24))) (.cells #[.int .i64 x.value.kind, .string x.value.name, .int .i64 x.value.n, .slice ax nx capx] 24)).size)); clear hm6 hb6; have s0 := cell_below z0 HB56.out; have s1 := cell_below z1 HB56.out; have s2 := cell_below z2 HB56.out; have s3 := cell_below z3 HB56.out; have s4 := cell_below z4 HB56.out; have HY6 := Lib.hid (HY.out.keep HB56.out); have hwr : Wr w6 (w.heap.size + 1) 24 4 := HY6.out.wr; have hz6 := HY6.out.lt)
      | fail)
  all_goals
    generalize hrr : (Tm.rows x.binds).length + (Tm.rows [x.value]).length = rr at *
    go_wp2
    have HR := Lib.hid (HY6.out.row #[.int .i64 1, .string ⟨#[]⟩, .int .i64 0, .slice a6 rr c6]).c4
    refine bodyPost_ret (v := .agg #[.int .i64 1, .string ⟨#[]⟩, .int .i64 0, .slice a6 rr c6]) (by simp [results, Try.results51, go_sem, HR.out]) rfl ?_
    refine ⟨a6, rr, c6, rfl, below_setRow (HB0.out.trans (HB56.out.mono HB0.out.size)) (by omega) _, ?_⟩
    have hmm := (HM6.out.row (w.heap.size + 1) #[.int .i64 1, .string ⟨#[]⟩, .int .i64 0, .slice a6 rr c6] (by have h1 := HZ.out; omega) (by omega)).memW
    rw [Ans.all, Tm.rows_app]
    exact hmm
end Go.Proofs.Ytmadfkofmehfkaa
