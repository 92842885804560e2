/-
  term.each, term.All: an iterator over a term and all that is in it. No condition but how the term lies.
-/
import Derived.Test.YtppejoccljfblaaSeqT
namespace Go.Proofs.Ytppejoccljfblaa
open Go.RowKit
attribute [local go_sem] Oper.semAt_some

set_option maxRecDepth 100000 in
set_option maxHeartbeats 2000000 in
theorem each_any {w0 : World} {vs bs : List Nat} {l N : Nat} {J Jx : List (Fx w0) → World → Prop}
    (HA : Hid (∀ s W o, J s W → J s (W.alloc o)))
    (HY : Hid (∀ m pre x W, J pre W → pre.length < N → YieldAt Fence.wide m Try.prog l (Fx.enc x) W fun e W' => (e = .returned (.bool true) ∧ J (pre ++ [x]) W' ∧ KpT vs bs W W') ∨ (e = .returned (.bool false) ∧ Jx (pre ++ [x]) W')))
    (m : Nat) : ∀ (f : Nat) (t : Tm) (a : Option Addr) (n cap : Nat) (_ : MemW w0 (.s 4 (Tm.rows t.args)) (.slice a n cap)) (pre : List (Fx w0)) (W : World), t.size ≤ m → Sd vs bs w0 W → J pre W → pre.length + t.size ≤ N →
      CallsIn Fence.wide f Try.prog 167 #[.agg #[.int .i64 t.kind, .string t.name, .int .i64 t.n, .slice a n cap], .func (.yield l) #[] #[]] W (EachPost vs bs t J Jx pre W) := by
  induction m with
  | zero => intro f t a n cap _ pre W h; have := t.size_pos; omega
  | succ m ih =>
    intro f t a n cap hm pre W hsz hS hJ hN
    have IH := Lib.hid ih
    clear ih
    have hl := Tms.len hm
    have HL := Lib.hid hl.1
    have hcap := hl.2.1
    have hmx := hl.2.2
    clear hl
    have HZ := Lib.hid hsz
    have HN := Lib.hid hN
    have HM := Lib.hid hm
    have HS := Lib.hid hS
    have hp := t.size_pos
    obtain ⟨fn, tmps, assign, body, hy, hR⟩ := HY.out (f - 1) pre ⟨t, a, n, cap, hm⟩ (W.alloc (.cells #[.int .i64 t.kind, .string t.name, .int .i64 t.n, .slice a n cap] 96)) (HA.out _ _ _ hJ) (by omega)
    simp only [Fx.enc] at hy
    clear hsz hS hJ hN hp
    refine callsIn_of_wp Try.func167 rfl trivial ?_ rfl; simp only [Try.ntmps167, List.size_toArray, List.length_cons, List.length_nil, Nat.reduceAdd, Nat.reduceSub, Array.replicate_succ, Array.replicate_zero, List.push_toArray, List.append_toArray, List.nil_append, List.cons_append]
    gi_wp2
    refine ⟨wide_ok' _, ?_⟩
    refine hR.mono ?_
    rintro e W3 (⟨rfl, hJ3, hk3⟩ | ⟨rfl, hJx3⟩)
    · have hc3 : W3.cell? ⟨W.heap.size, 3, none⟩ = some (.slice a n cap) := KpT.fresh HS.out hk3 (Bo.new W 96 #[.int .i64 t.kind, .string t.name, .int .i64 t.n, .slice a n cap]).c4.2.2.2
      have HK3 := Lib.hid ((KpT.alloc _ HS.out.bs).trans hk3)
      have HJ3 := Lib.hid hJ3
      clear hJ3 hk3
      gi_wp2
      gi_loopw [14] (fun i wr => ∃ k : Nat, k ≤ n ∧ i = .int .i64 k ∧ Hid (KpT vs bs W wr) ∧ Hid (∃ q, q.map Fx.t = t :: Tm.alls (t.args.take k) ∧ J (pre ++ q) wr)) (fun i _ => n - (intOf i).toNat)
      case atStart => exact ⟨0, Nat.zero_le _, rfl, HK3.out, ⟨_, by rw [List.take_zero, Tm.alls]; rfl, HJ3.out⟩⟩
      case round =>
        obtain ⟨k, hk, rfl, HK, HQ⟩ := hrel
        by_cases hlt : k < n
        · obtain ⟨b, o, y, ay, ny, capy, ha, _, Hy, c0, c1, c2, c3, GY⟩ := tm_at HM.out k hlt
          have HSr := Lib.hid (HS.out.kpt HK.out)
          obtain ⟨q, hq1, hq2⟩ := HQ.out
          have HQ1 := Lib.hid hq1
          have HQ2 := Lib.hid hq2
          have HTS := Lib.hid (show y.size ≤ m by have := Tm.size_arg (mem_of_at Hy.out); have := HZ.out; omega)
          have HNS := Lib.hid (show (pre ++ q).length + y.size ≤ N by
            have h1 : q.length = (t :: Tm.alls (t.args.take k)).length := by rw [← hq1, List.length_map]
            have h2 := Tm.alls_le (ts := t.args) (k + 1)
            rw [Tm.alls_at Hy.out, List.length_append] at h2
            have h3 := HN.out
            rw [Tm.size_eq] at h3
            have e : y.all.length = y.size := rfl
            rw [List.length_cons] at h1
            rw [List.length_append]; omega)
          have x0 := HSr.out.cell _ _ _ c0
          have x1 := HSr.out.cell _ _ _ c1
          have x2 := HSr.out.cell _ _ _ c2
          have x3 := HSr.out.cell _ _ _ c3
          subst ha
          clear c0 c1 c2 c3 hq1 hq2 HQ
          gi_wp2_with (first
            | (refine ⟨trivial, wide_ok' _, ?_⟩
               gi_at_call 167
               refine (IH.out _ y ay ny capy GY.out (pre ++ q) _ HTS.out (HSr.out.alloc _) (HA.out _ _ _ HQ2.out) HNS.out).mono ?_
               rintro e W5 (⟨rfl, hk5, q5, hq5, hj5⟩ | ⟨rfl, q5, hq5, hj5⟩)
               all_goals
                 have HQ5 := Lib.hid hq5
                 have HJ5 := Lib.hid hj5
                 clear hq5 hj5))
          · have HK5 := Lib.hid ((HK.out.trans (KpT.alloc _ HSr.out.bs)).trans hk5)
            go_roundw
            case rel => exact ⟨k + 1, by omega, by go_num, HK5.out, q ++ q5, told_snoc HQ1.out Hy.out HQ5.out, by rw [← List.append_assoc]; exact HJ5.out⟩
            case measure => simp [intOf]; omega
          · go_ret
            exact .inr ⟨rfl, q ++ q5, told_part HQ1.out Hy.out HQ5.out rfl, by rw [← List.append_assoc]; exact HJ5.out⟩
        · have HT : Hid (t.args.take k = t.args) := Lib.hid (List.take_of_length_le (by have := HL.out; omega))
          gi_wp2
          go_ret
          obtain ⟨q, hq1, hq2⟩ := HQ.out
          exact .inl ⟨rfl, HK.out, q, by rw [hq1, HT.out, Tm.all_eq], hq2⟩
    · have HJ3 := Lib.hid hJx3
      clear hJx3
      gi_wp2
      go_ret
      exact .inr ⟨rfl, _, ⟨Tm.alls t.args, by rw [Tm.all_eq]; rfl⟩, HJ3.out⟩

set_option maxRecDepth 100000 in
set_option maxHeartbeats 2000000 in
/-- The value that term.All hands back: it tells the term and all that is in it. -/
theorem all1_term {w0 : World} {vs bs : List Nat} {t : Tm} {a : Option Addr} {n cap cb : Nat} {w : World} (hm : MemW w0 (.s 4 (Tm.rows t.args)) (.slice a n cap)) (hcb : Bo w cb 96 #[.int .i64 t.kind, .string t.name, .int .i64 t.n, .slice a n cap]) (hS : Sd vs bs w0 w) :
    IterT Try.prog 166 #[.pointer (some ⟨cb, 0, none⟩)] w0 t vs bs w := by
  intro f l J Jx W hW hJ hJx hY h0
  obtain ⟨c0, c1, c2, c3⟩ := (hcb.keep hW).c4
  have HE := Lib.hid (each_any (w0 := w0) (vs := vs) (bs := bs) (l := l) (N := t.size) (J := J) (Jx := Jx) (Lib.hid (abides_new hJ)) (Lib.hid fun m pre x W1 h1 h2 => YieldAt.any m (hY pre x W1 h1 h2)) t.size (f - 1) t a n cap hm [] W (Nat.le_refl _) (hS.below hW) h0 (by simp))
  clear hcb hY hJ hJx h0 hW hS
  refine callsIn_of_wp Try.func166 rfl trivial ?_ rfl; simp only [Try.ntmps166, List.size_toArray, List.length_cons, List.length_nil, Nat.reduceAdd, Nat.reduceSub, Array.replicate_succ, Array.replicate_zero, List.push_toArray, List.append_toArray, List.nil_append, List.cons_append]
  gi_wp2_with (first
    | (refine ⟨trivial, wide_ok' _, ?_⟩
       gi_at_call 167
       refine HE.out.mono ?_
       rintro e W5 (⟨rfl, _, q5, hq5, hj5⟩ | ⟨rfl, q5, hq5, hj5⟩)
       all_goals
         have HQ5 := Lib.hid hq5
         have HJ5 := Lib.hid hj5
         clear hq5 hj5))
  · go_end0
    exact ⟨⟨_, rfl⟩, .inl ⟨q5, HQ5.out, HJ5.out⟩⟩
  · go_end0
    exact ⟨⟨_, rfl⟩, .inr ⟨q5, HQ5.out, HJ5.out⟩⟩
theorem allT_any (t : Tm) (a : Option Addr) (n cap : Nat) (w : World) :
    Calls Try.prog 115 #[.agg #[.int .i64 t.kind, .string t.name, .int .i64 t.n, .slice a n cap]] w fun e w' => e = .returned (.func (.func 166) #[] #[.pointer (some ⟨w.heap.size, 0, none⟩)]) ∧ w.alloc (.cells #[.int .i64 t.kind, .string t.name, .int .i64 t.n, .slice a n cap] 96) = w' := by
  go_enter Try.func115, Try.ntmps115
  go_wp2
  go_ret
  exact ⟨rfl, rfl⟩
end Go.Proofs.Ytppejoccljfblaa
