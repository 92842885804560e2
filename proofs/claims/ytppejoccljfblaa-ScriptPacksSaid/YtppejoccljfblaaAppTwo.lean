/-
  append(append([]byte(nil), b...), make([]byte, n)...): the bytes with noughts behind. No condition but sizes.
-/
import Derived.Test.YtppejoccljfblaaAppMake
import Derived.Test.YtppejoccljfblaaAwake37
namespace Go.Proofs.Ytppejoccljfblaa
open Go.RowKit

/-- What the first append hands on: nothing, or a row of its own. -/
def Fst (base : Nat) (l : List UInt8) (v : Value) (W : World) : Prop :=
  (l = [] ∧ v = .slice none 0 0) ∨ (∃ q c cs, v = .slice (some ⟨q, 0, none⟩) l.length c ∧ base ≤ q ∧ Bo W q 5 cs ∧ cs.size = c ∧ l.length ≤ c ∧ c ≤ 9223372036854775807 ∧ ∀ j (h : j < l.length), cs[j]? = some (.int .u8 l[j].toNat))
theorem u8_info : Try.prog.info? 5 = some ((Try.prog.info? 5).get (by rw [Option.isSome_iff_exists]; obtain ⟨i, hi, _⟩ := info_byte'; exact ⟨i, hi⟩)) := by simp
theorem u8s_get (l : List UInt8) (j : Nat) (h : j < (u8s l).length) : (u8s l)[j] = .int .u8 (l[j]'(by rw [u8s_length] at h; exact h)).toNat := by simp [u8s]
theorem u8s_one (l : List UInt8) : ∀ u ∈ u8s l, u.oneCell' = true := by
  intro u hu; simp only [u8s, List.mem_map] at hu; obtain ⟨b, _, rfl⟩ := hu; rfl
theorem rd_get {B : Nat} {w : World} {a : Option Addr} {n cap : Nat} {xs : List Value} (h : Rd B w a n cap 1 xs) : ∀ b, a = some b → ∀ j u, xs[j]? = some u → w.cell? (b.add j) = some u := by
  obtain ⟨h1, h2, h3, h4⟩ := h
  intro b hb j u hu
  have hj := (List.getElem?_eq_some_iff.1 hu).1
  rcases h4 with h4 | ⟨b0, o, rfl, hB, hc⟩
  · omega
  · cases hb
    have e : (⟨b0, o, none⟩ : Addr).add j = ⟨b0, o + j, none⟩ := by unfold Addr.add; split <;> simp_all
    rw [e, hc j hj]; exact (List.getElem?_eq_some_iff.1 hu).2 ▸ rfl

theorem app_first {B n cap : Nat} {a : Option Addr} {l : List UInt8} {W : World} (ty : TypeId) (h : Rd B W a n cap 1 (u8s l)) (hn : n ≤ 20) :
    ∃ v W1, (Builtin.append_ #[22, 22] ty #[.slice none 0 0, .slice a n cap]).run Try.prog W = .ok v W1 ∧ Below W.heap.size W W1 ∧ Fst W.heap.size l v W1 := by
  have hl := h.u8Len
  obtain ⟨i, hi, hs, hb, hz⟩ := info_byte'
  have hu := Try.underlying22
  by_cases h0 : n = 0
  · subst h0
    have hsrc : Src Try.prog i.size 22 (.slice a 0 cap) 0 [] W := by
      cases a with
      | none => exact Src.ofNil W hu cap
      | some a => exact Src.ofSlice W hu a 0 cap [] (by simp) (by simp) (by simp)
    refine ⟨.slice none 0 0, W, ?_, Below.refl _ _, .inl ⟨List.eq_nil_of_length_eq_zero hl, rfl⟩⟩
    simp [Builtin.append_, run_underlying hu, sizeOf, typeInfo, hi, hsrc.len, hsrc.cells]
  · obtain ⟨b, o, ha⟩ : ∃ b o, a = some ⟨b, o, none⟩ := by
      rcases h.2.2.2 with h4 | ⟨b, o, ha, _⟩
      · exact absurd h4 h0
      · exact ⟨b, o, ha⟩
    subst ha
    have hsrc : Src Try.prog i.size 22 (.slice (some ⟨b, o, none⟩) n cap) n (u8s l) W := by
      rw [hs]
      exact Src.ofSlice W hu _ n cap (u8s l) (by rw [u8s_length]; omega) (rd_get h _ rfl) (u8s_one l)
    have hgc := grownCap_ge W (0 + n) 0 5
    have hgm := grownCap_le_maxLen W (0 + n) 0 5 (by unfold maxLen; omega)
    unfold maxLen at hgm
    have hr := run_append_grow_src (P := Try.prog) W 22 22 ty 5 i _ hu hi hz none 0 0 [] (by rw [hs]; exact run_firstCells_none _ 1 0 0 0) (.slice (some ⟨b, o, none⟩) n cap) n (u8s l) hsrc (by omega) (by omega) (by rw [hb, nextslicecap_zero (by omega)]; omega)
    simp only [Nat.zero_add] at hr hgc hgm
    refine ⟨_, _, hr, ((Below.refl _ W).drew).alloc (Nat.le_refl _) _, .inr ⟨W.heap.size, _, _, by rw [hl], Nat.le_refl _, Bo.new W.drew _ _, ?_, by omega, by omega, ?_⟩⟩
    · simp [u8s_length, Builtin.zeroCells, Value.cells]; omega
    · intro j hj
      rw [Array.getElem?_append_left (by simp [u8s_length]; exact hj)]
      simp [u8s, hj]

theorem app_make_zero (ty : TypeId) {a : Option Addr} {n c : Nat} (W : World) (h : n ≤ c) :
    (Builtin.append_ #[22, 3] ty #[.slice a n c, .int .i64 0]).run Try.prog W = .ok (.slice a n c) W := by
  obtain ⟨i, hi, hs, hb, hz⟩ := info_byte'
  cases a <;> simp [Builtin.append_, run_underlying Try.underlying22, run_underlying Try.underlying3, sizeOf, typeInfo, zeroValue, hi, hb, hz, h, asInt, asIntOf, storeCells, IntKind.wrap, IntKind.bits, Builtin.zeroCells]
theorem u8s_app (l : List UInt8) (k : Nat) : u8s (l ++ List.replicate k 0) = u8s l ++ List.replicate k (.int .u8 0) := by simp [u8s]
/-- A row of the call's own, read as bytes. -/
theorem bo_rd {q c : Nat} {W : World} {cs : Array Value} {t : TypeId} {l : List UInt8} (h : Bo W q t cs) (hc : c ≤ 9223372036854775807) (hlc : l.length ≤ c) (hl : ∀ j (h : j < l.length), cs[j]? = some (.int .u8 l[j].toNat)) :
    Rd W.heap.size W (some ⟨q, 0, none⟩) l.length c 1 (u8s l) := by
  refine ⟨by simp [u8s_length], hlc, hc, .inr ⟨q, 0, rfl, h.lt, fun j hj => ?_⟩⟩
  rw [u8s_get l j hj, Nat.zero_add]
  exact h.cell (hl j _)
theorem setCells_row (b : Nat) (e : TypeId) : ∀ (vs : List Value) (o : Nat) (w : World) (cur : Array Value), w.heap[b]? = some (.cells cur e (0, 0)) → o + vs.length ≤ cur.size →
    ∃ cur', (w.setCells b o vs).heap[b]? = some (.cells cur' e (0, 0)) ∧ cur'.size = cur.size ∧ (∀ j, j < o → cur'[j]? = cur[j]?) ∧ (∀ j (h : j < vs.length), cur'[o + j]? = some vs[j])
  | [], o, w, cur, h, _ => ⟨cur, h, rfl, fun _ _ => rfl, fun j h => absurd h (Nat.not_lt_zero j)⟩
  | v :: r, o, w, cur, h, hl => by
    have hl' : o + 1 + r.length ≤ (cur.setIfInBounds o v).size := by simp at hl ⊢; omega
    obtain ⟨cur', h1, h2, h3, h4⟩ := setCells_row b e r (o + 1) (w.setCell ⟨b, o, none⟩ v) _ (heap_setCell_same w b o cur e v h) hl'
    refine ⟨cur', h1, by rw [h2]; simp, fun j hj => ?_, fun j hj => ?_⟩
    · rw [h3 j (by omega), Array.getElem?_setIfInBounds_ne (by omega)]
    · cases j with
      | zero =>
        rw [Nat.add_zero, h3 o (by omega), Array.getElem?_setIfInBounds_self_of_lt (by simp at hl; omega)]; rfl
      | succ j => rw [show o + (j + 1) = o + 1 + j by omega, h4 j (by simp at hj; omega)]; rfl
theorem setCells_far (b : Nat) : ∀ (vs : List Value) (o : Nat) (w : World), (w.setCells b o vs).heap.size = w.heap.size ∧ (∀ k, k ≠ b → (w.setCells b o vs).heap[k]? = w.heap[k]?) ∧ (w.setCells b o vs).os = w.os ∧ (w.setCells b o vs).tape = w.tape ∧ (w.setCells b o vs).output = w.output
  | [], _, _ => ⟨rfl, fun _ _ => rfl, rfl, rfl, rfl⟩
  | v :: r, o, w => by
    obtain ⟨h1, h2, h3, h4, h5⟩ := setCells_far b r (o + 1) (w.setCell ⟨b, o, none⟩ v)
    exact ⟨by rw [World.setCells, h1]; simp [World.setCell], fun k hk => by rw [World.setCells, h2 k hk, heap_setCell_other w ⟨b, o, none⟩ k v hk], by rw [World.setCells, h3]; rfl, by rw [World.setCells, h4]; rfl, by rw [World.setCells, h5]; rfl⟩
theorem app_second {base k : Nat} {l : List UInt8} {v : Value} {W : World} (ty : TypeId) (h : Fst base l v W) (hl : l.length ≤ 20) (hk : k ≤ 10) (hbase : base ≤ W.heap.size) :
    ∃ a2 n2 c2 W2, (Builtin.append_ #[22, 3] ty #[v, .int .i64 (k : Int)]).run Try.prog W = .ok (.slice a2 n2 c2) W2 ∧ Rd W2.heap.size W2 a2 n2 c2 1 (u8s (l ++ List.replicate k 0)) ∧ Below base W W2 := by
  have hlen : (l ++ List.replicate k (0 : UInt8)).length = l.length + k := by simp
  by_cases h0 : k = 0
  · subst h0
    rcases h with ⟨rfl, rfl⟩ | ⟨q, c, cs, rfl, hq, hbo, hcs, hlc, hc, hget⟩
    · exact ⟨none, 0, 0, W, app_make_zero ty W (Nat.le_refl _), ⟨rfl, Nat.le_refl _, by decide, .inl rfl⟩, Below.refl _ _⟩
    · exact ⟨_, _, _, W, app_make_zero ty W hlc, by simpa using bo_rd hbo hc hlc hget, Below.refl _ _⟩
  · by_cases hroom : ∃ q c cs, v = .slice (some ⟨q, 0, none⟩) l.length c ∧ base ≤ q ∧ Bo W q 5 cs ∧ cs.size = c ∧ l.length ≤ c ∧ c ≤ 9223372036854775807 ∧ (∀ j (h : j < l.length), cs[j]? = some (.int .u8 l[j].toNat)) ∧ l.length + k ≤ c
    · obtain ⟨q, c, cs, rfl, hq, hbo, hcs, hlc, hc, hget, hr⟩ := hroom
      have hrun := app_make_room (b := q) (off := 0) (sLen := l.length) (sCap := c) (n := k) (w := W) (by omega) (by omega) hr (fun j hj => by
        rw [show 0 + l.length + j = l.length + j by omega]
        rw [hbo.cell (Array.getElem?_eq_getElem (by omega : l.length + j < cs.size))]; rfl) (fun j hj => hbo.frozen _)
      obtain ⟨cur', g1, g2, g3, g4⟩ := setCells_row q 5 (List.replicate k (Value.int .u8 0)) (0 + l.length) W cs hbo (by simp; omega)
      obtain ⟨f1, f2, f3, f4, f5⟩ := setCells_far q (List.replicate k (Value.int .u8 0)) (0 + l.length) W
      refine ⟨_, _, _, _, hrun, ?_, ⟨f3, f4, f5, by rw [f1]; exact Nat.le_refl _, fun j hj => f2 j (by omega)⟩⟩
      have := bo_rd (l := l ++ List.replicate k 0) (c := c) (W := W.setCells q (0 + l.length) (List.replicate k (Value.int .u8 0))) (q := q) (cs := cur') (t := 5) g1 hc (by rw [hlen]; exact hr) (fun j hj => by
        by_cases hj1 : j < l.length
        · rw [g3 j (by omega), hget j hj1, List.getElem_append_left hj1]
        · have := g4 (j - l.length) (by simp; omega)
          rw [show 0 + l.length + (j - l.length) = j by omega] at this
          rw [this, List.getElem_append_right (by omega)]; simp)
      rw [hlen] at this
      exact this
    · have hv : ∃ base' sLen sCap, v = .slice base' sLen sCap ∧ sLen = l.length ∧ sCap < sLen + k ∧ (Builtin.firstCells 1 sLen (.slice base' sLen sCap)).run Try.prog W.drew = .ok (u8s l).toArray W.drew := by
        rcases h with ⟨rfl, rfl⟩ | ⟨q, c, cs, rfl, hq, hbo, hcs, hlc, hc, hget⟩
        · exact ⟨none, 0, 0, rfl, rfl, by omega, run_firstCells_none _ 1 0 0 0⟩
        · refine ⟨_, _, c, rfl, rfl, ?_, ?_⟩
          · rcases Nat.lt_or_ge c (l.length + k) with h1 | h1
            · exact h1
            · exact absurd ⟨q, c, cs, rfl, hq, hbo, hcs, hlc, hc, hget, h1⟩ hroom
          · refine run_firstCells_some W.drew 1 l.length ⟨q, 0, none⟩ l.length c (u8s l) (by simp [u8s_length]) (fun j u hj => ?_)
            have hj' := (List.getElem?_eq_some_iff.1 hj).1
            have e : (⟨q, 0, none⟩ : Addr).add j = ⟨q, 0 + j, none⟩ := by unfold Addr.add; split <;> simp_all
            rw [e, Nat.zero_add]
            have := (List.getElem?_eq_some_iff.1 hj).2
            rw [← this, u8s_get l j hj']
            exact Bo.cell (Bo.drew hbo) (hget j (by rw [u8s_length] at hj'; exact hj'))
      obtain ⟨base', sLen, sCap, rfl, hsl, hsc, hold⟩ := hv
      have hgc := grownCap_ge W (sLen + k) sCap 5
      have hgm := grownCap_le_maxLen W (sLen + k) sCap 5 (by unfold maxLen; omega)
      unfold maxLen at hgm
      have hfit : Builtin.nextslicecap (sLen + k) sCap ≤ 281474976710656 := by have := nextslicecap_le hsc; omega
      have hrun := app_make_grow (base := base') (w := W) (n := k) (sLen := sLen) (sCap := sCap) (olds := u8s l) (by omega) (by omega) (by omega) hold hsc hfit
      refine ⟨_, _, _, _, hrun, ?_, ((Below.refl _ W).drew).alloc hbase _⟩
      have := bo_rd (l := l ++ List.replicate k 0) (c := grownCap W (sLen + k) sCap 5) (Bo.new W.drew 5 ((u8s l ++ List.replicate k (Value.int .u8 0)).toArray ++ Builtin.zeroCells (Value.int .u8 0).cells (grownCap W (sLen + k) sCap 5 - (sLen + k)))) (by omega) (by rw [hlen]; omega) (fun j hj => by
        rw [Array.getElem?_append_left (by simp [u8s_length]; omega), ← u8s_app]
        simp only [List.getElem?_toArray]
        rw [List.getElem?_eq_getElem (by rw [u8s_length]; exact hj), u8s_get])
      rw [hlen, ← hsl] at this
      exact this
theorem wpList_app {ops : Array Oper} {rest : List Oper} {o : Oper} {a : Act} {w w' : World} {Q : Exit → Act → World → Prop} {v1 v2 v : Value} {ts : Array TypeId} (hgd : o.guard = none) (s x : Operand)
    (ho : o.op = .call { callee := .builtin .append, args := #[s, x], argTypes := ts }) (hv : a.eval s = v1) (hx : a.eval x = v2) (hr : (Builtin.append_ ts o.type #[v1, v2]).run Try.prog w = .ok v w') (h : wpList Try.prog ops Q rest (a.put o.dst v) w') : wpList Try.prog ops Q (o :: rest) a w :=
  wpList_plain hgd fun _ hK => by
    unfold Oper.wp execOp
    simp only [ho, resolve, invoke, builtin, Sem.run_bind, Sem.run_pure, Result.andThen_ok, List.map_toArray, List.map_cons, List.map_nil, hv, hx, hr]
    exact hK _ _ h
theorem pad_head (l : List UInt8) (k j : Nat) : ((l ++ List.replicate k 0).drop j).headD 0 = (l.drop j).headD 0 := by
  rw [List.headD_eq_head?_getD, List.headD_eq_head?_getD, List.head?_drop, List.head?_drop]
  rcases Nat.lt_or_ge j l.length with h | h
  · rw [List.getElem?_append_left h]
  · rw [List.getElem?_append_right h, List.getElem?_eq_none h, List.getElem?_replicate]
    split <;> rfl
theorem cut_drop (l : List UInt8) : (l.take 12).drop 12 = [] := by rw [List.drop_eq_nil_iff, List.length_take]; omega
theorem u8s_take (l : List UInt8) (m : Nat) : u8s (l.take m) = (u8s l).take m := by simp [u8s, List.map_take]
theorem rd_cut {B n cap : Nat} {a : Option Addr} {l : List UInt8} {w : World} (m : Nat) (h : Rd B w a n cap 1 (u8s l)) (hm : min n 12 = m) : Rd B w a m cap 1 (u8s (l.take 12)) := by
  have hl := h.u8Len
  obtain ⟨h1, h2, h3, h4⟩ := h
  refine ⟨by rw [u8s_length, List.length_take, hl, Nat.min_comm, hm, Nat.mul_one], hm ▸ Nat.le_trans (Nat.min_le_left _ _) h2, h3, ?_⟩
  rcases h4 with h4 | ⟨b, o, ha, hb, hc⟩
  · exact .inl (by rw [h4] at hm; simpa using hm.symm)
  · refine .inr ⟨b, o, ha, hb, fun j hj => ?_⟩
    have hj' : j < (u8s l).length := by rw [u8s_length, List.length_take] at hj; rw [u8s_length]; exact Nat.lt_of_lt_of_le hj (Nat.min_le_right _ _)
    rw [hc j hj']
    simp [u8s]
theorem raw_cut {a : Option Addr} {n cap : Nat} {l : List UInt8} (h20 : n ≤ 20) : ∃ z0 z1 z2 z3 : Nat, ∀ (w : World) (m : Nat), Rd w.heap.size w a n cap 1 (u8s l) → min n 12 = m →
    Calls Try.prog 16 #[.slice a m cap] w fun e w' => e = .returned (.agg #[.string ⟨#[]⟩, .string ⟨#[]⟩, .int .i64 z0, .int .i64 z1, .int .i64 z2, .int .i64 z3]) ∧ Below w.heap.size w w' := by
  refine ⟨((l.take 12).headD 0).toNat, numV ((l.take 12).drop 1) 3, numV ((l.take 12).drop 4) 3, numV ((l.take 12).drop 7) 3, fun w m h hm => ?_⟩
  have := raw_any w (rd_cut m h hm) (by omega)
  rw [cut_drop] at this
  simpa using this
theorem goal_at (r : Nat) (h : r < 20) : ∃ g, goalsL[r]? = some g := ⟨goalsL[r]'(by show r < 20; exact h), List.getElem?_eq_getElem _⟩
theorem take_two {a : Option Addr} {n cap : Nat} {l : List UInt8} (k : Nat) : ∃ (g0 : ByteArray) (r1 x2 x3 r4 : Nat),
    (∀ w, Rd w.heap.size w a n cap 1 (u8s l) → Calls Try.prog 15 #[.slice a n cap] w fun e w' => e = .returned (.agg #[.string takeSrc, .string g0, .int .i64 r1, .int .i64 (16 * (x2 : Int)), .int .i64 (64 + 8 * (x3 : Int)), .int .i64 r4]) ∧ Below w.heap.size w w') ∧
    (∀ w a2 n2 c2, Rd w.heap.size w a2 n2 c2 1 (u8s (l ++ List.replicate k 0)) → Calls Try.prog 15 #[.slice a2 n2 c2] w fun e w' => e = .returned (.agg #[.string takeSrc, .string g0, .int .i64 r1, .int .i64 (16 * (x2 : Int)), .int .i64 (64 + 8 * (x3 : Int)), .int .i64 r4]) ∧ Below w.heap.size w w') := by
  obtain ⟨g0, hg0⟩ := goal_at ((l.headD 0).toNat % 20) (Nat.mod_lt _ (by decide))
  have p0 : (l ++ List.replicate k 0).headD 0 = l.headD 0 := pad_head l k 0
  refine ⟨g0, ((l.drop 1).headD 0).toNat % 3, ((l.drop 2).headD 0).toNat, ((l.drop 3).headD 0).toNat, ((l.drop 4).headD 0).toNat % 8, fun w h => ?_, fun w a2 n2 c2 h => ?_⟩
  · exact take_any _ _ _ _ _ _ _ _ rfl rfl rfl rfl rfl rfl rfl rfl g0 hg0 w h
  · exact take_any (l.headD 0).toNat ((l.drop 1).headD 0).toNat ((l.drop 2).headD 0).toNat ((l.drop 3).headD 0).toNat ((l.drop 4).headD 0).toNat _ _ _ (by rw [p0]) (by rw [pad_head]) (by rw [pad_head]) (by rw [pad_head]) (by rw [pad_head]) rfl rfl rfl g0 hg0 w h
end Go.Proofs.Ytppejoccljfblaa
