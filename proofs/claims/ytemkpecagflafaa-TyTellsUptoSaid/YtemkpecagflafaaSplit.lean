/-
  Split: a function's type is parted into its arguments and what it gives. No condition but how it lies.
-/
import Derived.Test.YtemkpecagflafaaAll
import Derived.Test.YtemkpecagflafaaFun
namespace Go.Proofs.Ytemkpecagflafaa
open Go.RowKit

attribute [local go_sem ↓] store_type
attribute [local go_sem] stOk_type
attribute [local go_sem] stB_eq stC_eq wr_drew wr_alloc wr_row

/-- One argument, and the rest. -/
def spl (t : Tm) : Option (Tm × Tm) :=
  match t.args with
  | [a, b] => if t.kind = 3 then some (a, b) else none
  | _ => none
def splF : Nat → Tm → Option (List Tm × Tm)
  | 0, t => some ([], t)
  | j + 1, t => (splF j t).bind fun x => (spl x.2).map fun y => (x.1 ++ [y.1], y.2)
theorem splF_none {t : Tm} {j : Nat} (h : splF j t = none) : ∀ k, j ≤ k → splF k t = none := by
  intro k hk
  induction k with
  | zero => obtain rfl : j = 0 := by omega
            exact h
  | succ k ih =>
    by_cases e : j = k + 1
    · subst e; exact h
    · rw [splF, ih (by omega)]; rfl
theorem splF_len {t : Tm} : ∀ (j : Nat) (l : List Tm) (u : Tm), splF j t = some (l, u) → l.length = j := by
  intro j
  induction j with
  | zero => intro l u h; rw [splF] at h; cases h; rfl
  | succ j ih =>
    intro l u h
    rw [splF] at h
    obtain ⟨⟨l', u'⟩, h1, h2⟩ := Option.bind_eq_some_iff.1 h
    obtain ⟨⟨a, b⟩, _, h3⟩ := Option.map_eq_some_iff.1 h2
    cases h3
    have := ih l' u' h1
    simp [this]

/-- What Split hands back. -/
def GivesS (B : Nat) (r : Option (List Tm × Tm)) (w : World) (e : Ending) (w' : World) : Prop :=
  Below w.heap.size w w' ∧
  match r with
  | none => e = .returned (.tuple #[.slice none 0 0, .agg #[.int .i64 0, .string ⟨#[]⟩, .int .i64 0, .slice none 0 0], .bool false])
  | some (l, u) => ∃ a n cap a' n' cap', e = .returned (.tuple #[.slice a n cap, .agg #[.int .i64 u.kind, .string u.name, .int .i64 u.n, .slice a' n' cap'], .bool true]) ∧ Mem (Nw B w.heap.size w'.heap.size) w' (.s 4 (Tm.rows l)) (.slice a n cap) ∧ Mem (· < B) w' (.s 4 (Tm.rows u.args)) (.slice a' n' cap')

set_option maxRecDepth 100000 in
set_option maxHeartbeats 2000000 in
theorem split_any {t : Tm} {B n cap : Nat} {a : Option Addr} {w : World} (z : Int) (hz : z ≤ 1048576) (h : Mem (· < B) w (.s 4 (Tm.rows t.args)) (.slice a n cap)) (hB : B ≤ w.heap.size) :
    Calls Try.prog 42 #[.agg #[.int .i64 t.kind, .string t.name, .int .i64 t.n, .slice a n cap], .int .i64 z] w (GivesS B (splF z.toNat t) w) := by
  obtain ⟨K, hK, hmax⟩ : ∃ K : Nat, K = z.toNat ∧ (if (0 : Int) > z then (0 : Int) else z) = (K : Int) := ⟨_, rfl, by split <;> omega⟩
  have HK := Lib.hid hK
  have hKb : K ≤ 1048576 := by omega
  rw [← hK]
  clear hK hz
  have H := Lib.hid h
  have H0 := Lib.hid hB
  clear h hB
  go_enter Try.func42, Try.ntmps42
  go_wp2
  go_loopw [7, 10] (fun v i wr => ∃ (j : Nat), j ≤ K ∧ i = .int .i64 j ∧ Hid (Below w.heap.size w wr) ∧ Hid (Bo wr (w.heap.size + 1) 52 #[.int .i64 0, .string ⟨#[]⟩, .int .i64 0, .slice none 0 0]) ∧
      Hid (∃ l u ua un uc, splF j t = some (l, u) ∧ Bo wr w.heap.size 52 #[.int .i64 u.kind, .string u.name, .int .i64 u.n, .slice ua un uc] ∧ Mem (· < B) wr (.s 4 (Tm.rows u.args)) (.slice ua un uc) ∧ OwnD B (w.heap.size + 2) 52 4 wr v (Tm.rows l))) (fun _ i _ => K - (intOf i).toNat)
  case atStart =>
    exact ⟨0, Nat.zero_le _, rfl, (below_new _ _).alloc (by simp) _, World.size_alloc w _ ▸ Bo.new _ _ _, [], t, a, n, cap, rfl, (Bo.new _ _ _).alloc _, H.out.keep (Nat.le_refl _) (((below_new _ _).alloc (by simp) _).mono H0.out), by rw [Tm.rows]; exact OwnD.nil _ _ _ _ _⟩
  case round =>
    obtain ⟨j, hj, rfl, HB, HY, HT⟩ := hrel
    obtain ⟨l, u, ua, un, uc, hs, hbo, hm, ho⟩ := HT.out
    have HS := Lib.hid hs
    have HBo := Lib.hid hbo
    have HM := Lib.hid hm
    have HO := Lib.hid ho
    obtain ⟨g0, g1, g2, g3⟩ := hbo.c4
    have hul := Lib.hid hm.len
    clear hs hbo hm ho HT
    have hlt2 := HY.out.lt
    by_cases hlt : j < K
    · by_cases hk3 : u.kind = 3
      · have e1 : (u.kind != 3) = false := by rw [bne_eq_false_iff_eq]; exact hk3
        by_cases hn2 : un = 2
        · subst hn2
          obtain ⟨x, y, hxy⟩ : ∃ x y, u.args = [x, y] := by
            have h1 := hul.out.1
            rw [Tm.rows_len] at h1
            match hu : u.args, h1 with
            | [x, y], _ => exact ⟨x, y, rfl⟩
          have HN : Hid (splF (j + 1) t = some (l ++ [x], y)) := by
            show splF (j + 1) t = some (l ++ [x], y)
            rw [splF, HS.out]
            have : spl u = some (x, y) := by unfold spl; rw [hxy]; exact if_pos hk3
            rw [Option.bind_some, this]; rfl
          have HLN := Lib.hid (splF_len j l u HS.out)
          rw [hxy] at HM
          obtain ⟨b, o, x', ax, nx, capx, rfl, hbB, Hx, x0, x1, x2, x3, GX⟩ := tm_at HM.out 0 (by omega)
          obtain rfl : x = x' := by have := Hx.out; simpa using this
          rw [Nat.zero_mul, Nat.add_zero] at x0 x1 x2 x3
          have HOX := Lib.hid (HO.out.old (by have := H0.out; omega) (by omega) GX.out)
          have HBD := Lib.hid (show ((Tm.rows l).length + (Tm.rows [x]).length) * 56 ≤ 140737488355328 ∧ (Tm.rows l).length + (Tm.rows [x]).length ≤ 4611686018427387904 by rw [Tm.rows_len, Tm.rows_len, HLN.out, List.length_cons, List.length_nil]; omega)
          clear Hx hk3 hxy hul
          go_wp2_with (first
            | (at_builtin
               refine wpList_append_D rfl _ _ rfl Try.underlying50 info_type rfl (by decide) rfl rfl (HO.out.alloc _) (own_one x HO.out (by omega) HOX.out) HBD.out.1 HBD.out.2 (by rw [World.size_alloc]; omega) ?_
               intro v' w3 ho hg
               have HO3 := Lib.hid ho
               have HG3 : Hid (World.grownBy (wr.alloc _) w3 u7.ownBlock) := Lib.hid hg
               clear ho hg
               have HK3 : Hid (Below w.heap.size wr w3) := grown_below ((below_new wr _).mono (by omega)) HG3.out (by omega) (fun k hk => by have := HO.out.lt k hk; omega)
               have HBo3 := Lib.hid ((HBo.out.alloc _).grown HG3.out (fun k hk => by have := HO.out.lt k hk; omega))
               have HY3 := Lib.hid ((HY.out.alloc _).grown HG3.out (fun k hk => by have := HO.out.lt k hk; omega))
               have HM3 := Lib.hid (HM.out.keep (Nat.le_refl _) (HK3.out.mono H0.out))
               obtain ⟨h0, h1, h2, h3⟩ := HBo3.out.c4
               obtain ⟨b', o', y', ay, ny, capy, e', hbB', Hy, y0, y1, y2, y3, GY⟩ := tm_at HM3.out 1 (by omega)
               cases e'
               obtain rfl : y = y' := by have := Hy.out; simpa using this
               have hwr : Wr w3 w.heap.size 52 4 := HBo3.out.wr))
          go_roundw
          case rel =>
            refine ⟨j + 1, by omega, by go_num, below_setRow (HB.out.trans HK3.out) (Nat.le_refl _) _, HY3.out.rowFar _ (show w.heap.size + 1 ≠ w.heap.size by omega), l ++ [x], y, ay, ny, capy, HN.out, HBo3.out.row _, GY.out.row _ _ (fun h => by have := H0.out; omega), ?_⟩
            rw [Tm.rows_app]
            exact HO3.out.row _ _ (show w.heap.size < w.heap.size + 2 by omega) H0.out
          case measure => simp [intOf]; omega
        · have e2 : ((un : Int) != 2) = true := by rw [bne_iff_ne]; omega
          have HN : Hid (splF K t = none) := splF_none (j := j + 1) (by
            rw [splF, HS.out]
            have : spl u = none := by
              unfold spl
              have h1 := hul.out.1
              rw [Tm.rows_len] at h1
              split
              · rename_i heq; rw [heq] at h1; simp at h1; omega
              · rfl
            rw [Option.bind_some, this]; rfl) K hlt
          have hwr : Wr wr (w.heap.size + 1) 52 4 := HY.out.wr
          have HR := Lib.hid (HY.out.row #[.int .i64 0, .string ⟨#[]⟩, .int .i64 0, .slice none 0 0])
          clear hn2 hk3 hul
          go_wp2
          refine bodyPost_ret (v := .tuple #[.slice none 0 0, .agg #[.int .i64 0, .string ⟨#[]⟩, .int .i64 0, .slice none 0 0], .bool false]) (by simp [results, Try.results42, go_sem, HR.out.c4]) rfl ?_
          rw [HN.out]
          exact ⟨below_setRow HB.out (by omega) _, rfl⟩
      · have e1 : (u.kind != 3) = true := by rw [bne_iff_ne]; exact hk3
        have HN : Hid (splF K t = none) := splF_none (j := j + 1) (by
            rw [splF, HS.out]
            have : spl u = none := by
              unfold spl
              split
              · rw [if_neg hk3]
              · rfl
            rw [Option.bind_some, this]; rfl) K hlt
        have hwr : Wr wr (w.heap.size + 1) 52 4 := HY.out.wr
        have HR := Lib.hid (HY.out.row #[.int .i64 0, .string ⟨#[]⟩, .int .i64 0, .slice none 0 0])
        clear hk3 hul
        go_wp2
        refine bodyPost_ret (v := .tuple #[.slice none 0 0, .agg #[.int .i64 0, .string ⟨#[]⟩, .int .i64 0, .slice none 0 0], .bool false]) (by simp [results, Try.results42, go_sem, HR.out.c4]) rfl ?_
        rw [HN.out]
        exact ⟨below_setRow HB.out (by omega) _, rfl⟩
    · obtain rfl : j = K := by omega
      obtain ⟨va, vc, rfl, _, _⟩ := HO.out.form
      have hwr : Wr wr (w.heap.size + 1) 52 4 := HY.out.wr
      have HR := Lib.hid (HY.out.drew.row #[.int .i64 u.kind, .string u.name, .int .i64 u.n, .slice ua un uc])
      have HMM := Lib.hid HO.out.mem
      generalize (Tm.rows l).length = ln at *
      go_wp2
      go_region_held3 (fun w' => w'.cell? ⟨w.heap.size, 0, none⟩ = some (.int .i64 u.kind) ∧ w'.cell? ⟨w.heap.size, 1, none⟩ = some (.string u.name) ∧ w'.cell? ⟨w.heap.size, 2, none⟩ = some (.int .i64 u.n) ∧ w'.cell? ⟨w.heap.size, 3, none⟩ = some (.slice ua un uc)) ((repeat' apply And.intro) <;> (repeat (first | with_reducible assumption | with_reducible refine cell_drew ?_ | with_reducible refine cell_alloc _ ?_ | with_reducible refine cell_row_far _ ?_ (by omega) | with_reducible refine cell_below ?_ HB.out))) (fail)
      all_goals
        go_wp2
        refine bodyPost_ret (v := .tuple #[.slice va ln vc, .agg #[.int .i64 u.kind, .string u.name, .int .i64 u.n, .slice ua un uc], .bool true]) (by simp [results, Try.results42, go_sem, HR.out.c4]) rfl ?_
        rw [HS.out]
        refine ⟨below_setRow (below_drewN HB.out 1) (by omega) _, va, ln, vc, ua, un, uc, rfl, ?_, ?_⟩
        · exact (Mem.row (S := Nw B (w.heap.size + 2) wr.heap.size) HMM.out.drew (w.heap.size + 1) _ (fun h => by rcases h.1 with h | h <;> have := H0.out <;> omega)).mono (fun b hb => ⟨hb.1.imp id fun h => by omega, by rw [size_setRow]; exact hb.2⟩) fun _ _ => rfl
        · exact Mem.row (S := (· < B)) HM.out.drew (w.heap.size + 1) _ (fun h => by have := H0.out; omega)
end Go.Proofs.Ytemkpecagflafaa
