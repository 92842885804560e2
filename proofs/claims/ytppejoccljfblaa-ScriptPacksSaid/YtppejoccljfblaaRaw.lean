/-
  script.Raw: a session out of bytes. No condition but how the bytes lie, and how many there are.
-/
import Derived.Test.YtppejoccljfblaaTaking3
import Derived.Test.YtppejoccljfblaaTree
namespace Go.Proofs.Ytppejoccljfblaa
open Go.RowKit

theorem store_scr {dst : Option Nat} {ty : TypeId} {pos : String} {after : Array Edge} {guard : Option (Nat × Bool)} {x y : Operand} {a : Act} {w : World} {K : Act → World → Prop} {Q : Exit → Act → World → Prop} (h : StOk 27 6 w (a.eval x) (a.eval y)) :
    Oper.wp Try.prog { dst := dst, op := .store 27 x y, type := ty, pos := pos, after := after, guard := guard } a w K Q = K (a.put dst undef) (w.setRow (stB (a.eval x)) (stC (a.eval y))) := wp_store_T rfl (by kernel_rfl) h
theorem stOk_scr {w : World} {g : Nat} {c2 c3 c4 c5 : Int} {c0 c1 : ByteArray} : StOk 27 6 w (.pointer (some ⟨g, 0, none⟩)) (.agg #[.string c0, .string c1, .int .i64 c2, .int .i64 c3, .int .i64 c4, .int .i64 c5]) = Wr w g 27 6 := stOk_eq rfl (by simp [Value.oneCell'])
attribute [local go_sem ↓] store_scr
attribute [local go_sem] stOk_scr stB_eq stC_eq wr_drew wr_alloc wr_row

theorem Bo.c6 {w : World} {q : Nat} {t : TypeId} {c0 c1 c2 c3 c4 c5 : Value} (h : Bo w q t #[c0, c1, c2, c3, c4, c5]) : w.cell? ⟨q, 0, none⟩ = some c0 ∧ w.cell? ⟨q, 1, none⟩ = some c1 ∧ w.cell? ⟨q, 2, none⟩ = some c2 ∧ w.cell? ⟨q, 3, none⟩ = some c3 ∧ w.cell? ⟨q, 4, none⟩ = some c4 ∧ w.cell? ⟨q, 5, none⟩ = some c5 :=
  ⟨h.cell (j := 0) rfl, h.cell (j := 1) rfl, h.cell (j := 2) rfl, h.cell (j := 3) rfl, h.cell (j := 4) rfl, h.cell (j := 5) rfl⟩
/-- While a session is read: the bytes left, the session so far, the result's cell. -/
structure RawSt (w : World) (q g : Nat) (l : List UInt8) (cs : Array Value) (W : World) : Prop where
  hq : w.heap.size < q
  hg : q < g
  tk : TK w.heap.size W q l
  x : Bo W g 27 cs
  r : Bo W w.heap.size 27 #[.string ⟨#[]⟩, .string ⟨#[]⟩, .int .i64 0, .int .i64 0, .int .i64 0, .int .i64 0]
  far : Below w.heap.size w W
theorem RawSt.next {w W W' : World} {q g : Nat} {l l' : List UInt8} {cs : Array Value} (h : RawSt w q g l cs W) (hf : Far (fun k => k = q) W W') (ht : TK w.heap.size W' q l') : RawSt w q g l' cs W' := by
  have h1 := h.hq
  have h2 := h.hg
  exact ⟨h1, h2, ht, (hf.block g h.x.lt (by omega)).trans h.x, (hf.block _ h.r.lt (by omega)).trans h.r,
    ⟨hf.os.trans h.far.os, hf.tape.trans h.far.tape, hf.output.trans h.far.output, Nat.le_trans h.far.size hf.size, fun k hk => (hf.block k (Nat.lt_of_lt_of_le hk h.far.size) (by omega)).trans (h.far.block k hk)⟩⟩
theorem RawSt.put {w W : World} {q g : Nat} {l : List UInt8} {cs : Array Value} (h : RawSt w q g l cs W) (j : Nat) (v : Value) : RawSt w q g l (cs.setIfInBounds j v) (W.setCell ⟨g, j, none⟩ v) := by
  have h1 := h.hq
  have h2 := h.hg
  obtain ⟨hB, a, n, cap, hb, hR⟩ := h.tk
  refine ⟨h1, h2, ⟨hB, a, n, cap, (heap_setCell_other _ _ _ _ (by show q ≠ g; omega)).trans hb, ?_⟩, h.x.set j v, h.r.far j v (by omega), h.far.setCell (p := ⟨g, j, none⟩) (by show w.heap.size ≤ g; omega) v⟩
  exact hR.mono ((Below.refl w.heap.size W).setCell (p := ⟨g, j, none⟩) (by show w.heap.size ≤ g; omega) v)

set_option maxRecDepth 100000 in
set_option maxHeartbeats 2000000 in
theorem raw_any {a : Option Addr} {n cap : Nat} {l : List UInt8} (w : World) (h : Rd w.heap.size w a n cap 1 (u8s l)) (hn : n ≤ 1000000) :
    Calls Try.prog 16 #[.slice a n cap] w fun e w' => e = .returned (.agg #[.string ⟨((l.drop 12).take (numV (l.drop 10) 2)).toArray⟩, .string ⟨((l.drop 12).drop (numV (l.drop 10) 2)).toArray⟩, .int .i64 (l.headD 0).toNat, .int .i64 (numV (l.drop 1) 3), .int .i64 (numV (l.drop 4) 3), .int .i64 (numV (l.drop 7) 3)]) ∧ Below w.heap.size w w' := by
  have HL := Lib.hid h.u8Len
  have HS0 : Hid (RawSt w (w.heap.size + 1) (w.heap.size + 1 + 1) l #[.string ⟨#[]⟩, .string ⟨#[]⟩, .int .i64 0, .int .i64 0, .int .i64 0, .int .i64 0] (((w.alloc (.cells #[.string ⟨#[]⟩, .string ⟨#[]⟩, .int .i64 0, .int .i64 0, .int .i64 0, .int .i64 0] 27)).alloc (.cells #[.slice a n cap] 22)).alloc (.cells #[.string ⟨#[]⟩, .string ⟨#[]⟩, .int .i64 0, .int .i64 0, .int .i64 0, .int .i64 0] 27))) := by
    have b0 := ((Bo.new w 27 #[.string ⟨#[]⟩, .string ⟨#[]⟩, .int .i64 0, .int .i64 0, .int .i64 0, .int .i64 0]).alloc (.cells #[.slice a n cap] 22)).alloc (.cells #[.string ⟨#[]⟩, .string ⟨#[]⟩, .int .i64 0, .int .i64 0, .int .i64 0, .int .i64 0] 27)
    have b2 := Bo.new ((w.alloc (.cells #[.string ⟨#[]⟩, .string ⟨#[]⟩, .int .i64 0, .int .i64 0, .int .i64 0, .int .i64 0] 27)).alloc (.cells #[.slice a n cap] 22)) 27 #[.string ⟨#[]⟩, .string ⟨#[]⟩, .int .i64 0, .int .i64 0, .int .i64 0, .int .i64 0]
    have b1 := (Boxed.new (w.alloc (.cells #[.string ⟨#[]⟩, .string ⟨#[]⟩, .int .i64 0, .int .i64 0, .int .i64 0, .int .i64 0] 27)) 22 (.slice a n cap)).alloc (.cells #[.string ⟨#[]⟩, .string ⟨#[]⟩, .int .i64 0, .int .i64 0, .int .i64 0, .int .i64 0] 27)
    simp only [World.size_alloc] at b0 b1 b2
    have hf : Below w.heap.size w (((w.alloc (.cells #[.string ⟨#[]⟩, .string ⟨#[]⟩, .int .i64 0, .int .i64 0, .int .i64 0, .int .i64 0] 27)).alloc (.cells #[.slice a n cap] 22)).alloc (.cells #[.string ⟨#[]⟩, .string ⟨#[]⟩, .int .i64 0, .int .i64 0, .int .i64 0, .int .i64 0] 27)) := (((Below.refl _ w).alloc (Nat.le_refl _) _).alloc (by simp) _).alloc (by simp; omega) _
    exact ⟨by omega, by omega, ⟨by omega, a, n, cap, b1, h.mono hf⟩, b2, b0, hf⟩
  have hnl := numV_le (l.drop 10) 2
  have hn2 : numV (l.drop 10) 2 ≤ 65535 := by have : 256 ^ 2 = 65536 := rfl; omega
  have HNN := Lib.hid hn
  obtain ⟨x0, hx0⟩ : ∃ x0, (l.headD 0).toNat = x0 := ⟨_, rfl⟩
  obtain ⟨v1, hv1⟩ : ∃ v, numV (l.drop 1) 3 = v := ⟨_, rfl⟩
  obtain ⟨v2, hv2⟩ : ∃ v, numV (l.drop 4) 3 = v := ⟨_, rfl⟩
  obtain ⟨v3, hv3⟩ : ∃ v, numV (l.drop 7) 3 = v := ⟨_, rfl⟩
  obtain ⟨m, hm⟩ : ∃ v, numV (l.drop 10) 2 = v := ⟨_, rfl⟩
  obtain ⟨s0, hs0⟩ : ∃ s : ByteArray, ⟨((l.drop 12).take m).toArray⟩ = s := ⟨_, rfl⟩
  obtain ⟨s1, hs1⟩ : ∃ s : ByteArray, ⟨((l.drop 12).drop m).toArray⟩ = s := ⟨_, rfl⟩
  rw [hm] at hn2
  have HNV : Hid (m ≤ 1000000) := Lib.hid (by omega)
  have HTK : Hid (((l.drop 12).drop m).take n = (l.drop 12).drop m) := Lib.hid (List.take_of_length_le (by rw [List.length_drop, List.length_drop, HL.out]; omega))
  rw [hx0, hv1, hv2, hv3, hm, hs0, hs1]
  have HX := Lib.hid hx0
  have HV1 := Lib.hid hv1
  have HV2 := Lib.hid hv2
  have HV3 := Lib.hid hv3
  have HM := Lib.hid hm
  have HS0' := Lib.hid hs0
  have HS1' := Lib.hid hs1
  clear h hnl hx0 hv1 hv2 hv3 hm hs0 hs1
  have tok1 : True := trivial
  have tok2 : True := trivial
  have tok3 : True := trivial
  have tok4 : True := trivial
  have tok5 : True := trivial
  have tok6 : True := trivial
  go_enter Try.func16, Try.ntmps16
  go_wp2_with (first
    | (go_at_call 71 ; refine (taking_any _ _ _ _).mono ?_; rintro e w' ⟨rfl, rfl⟩)
    | (go_at_call 121
       have _t := tok1
       refine (next_any HS0.out.tk).mono ?_
       rintro e w1 ⟨rfl, hf, ht⟩
       rw [HX.out]
       have HN1 : Hid (RawSt w (w.heap.size + 1) (w.heap.size + 1 + 1) (l.drop 1) _ w1) := Lib.hid (HS0.out.next hf ((by rw [← List.drop_one] at ht; exact ht)))
       have x1 := HN1.out.x.cell (j := 2) rfl
       have f1 := HN1.out.x.frozen 2
       have HS1 : Hid (RawSt w (w.heap.size + 1) (w.heap.size + 1 + 1) (l.drop 1) #[.string ⟨#[]⟩, .string ⟨#[]⟩, .int .i64 x0, .int .i64 0, .int .i64 0, .int .i64 0] (w1.setCell ⟨(w.heap.size + 1 + 1), 2, none⟩ (.int .i64 x0))) := Lib.hid (HN1.out.put 2 (.int .i64 x0))
       clear hf ht tok1 _t)
    | (go_at_call 73
       have _t := tok2
       refine (number_any' 3 (by decide) HS1.out.tk).mono ?_
       rintro e w2 ⟨rfl, hf, ht⟩
       rw [HV1.out]
       have HN2 : Hid (RawSt w (w.heap.size + 1) (w.heap.size + 1 + 1) (l.drop 4) _ w2) := Lib.hid (HS1.out.next hf ((by rw [List.drop_drop] at ht; exact ht)))
       have x2 := HN2.out.x.cell (j := 3) rfl
       have f2 := HN2.out.x.frozen 3
       have HS2 : Hid (RawSt w (w.heap.size + 1) (w.heap.size + 1 + 1) (l.drop 4) #[.string ⟨#[]⟩, .string ⟨#[]⟩, .int .i64 x0, .int .i64 v1, .int .i64 0, .int .i64 0] (w2.setCell ⟨(w.heap.size + 1 + 1), 3, none⟩ (.int .i64 v1))) := Lib.hid (HN2.out.put 3 (.int .i64 v1))
       clear hf ht tok2 _t)
    | (go_at_call 73
       have _t := tok3
       refine (number_any' 3 (by decide) HS2.out.tk).mono ?_
       rintro e w3 ⟨rfl, hf, ht⟩
       rw [HV2.out]
       have HN3 : Hid (RawSt w (w.heap.size + 1) (w.heap.size + 1 + 1) (l.drop 7) _ w3) := Lib.hid (HS2.out.next hf ((by rw [List.drop_drop] at ht; exact ht)))
       have x3 := HN3.out.x.cell (j := 4) rfl
       have f3 := HN3.out.x.frozen 4
       have HS3 : Hid (RawSt w (w.heap.size + 1) (w.heap.size + 1 + 1) (l.drop 7) #[.string ⟨#[]⟩, .string ⟨#[]⟩, .int .i64 x0, .int .i64 v1, .int .i64 v2, .int .i64 0] (w3.setCell ⟨(w.heap.size + 1 + 1), 4, none⟩ (.int .i64 v2))) := Lib.hid (HN3.out.put 4 (.int .i64 v2))
       clear hf ht tok3 _t)
    | (go_at_call 73
       have _t := tok4
       refine (number_any' 3 (by decide) HS3.out.tk).mono ?_
       rintro e w4 ⟨rfl, hf, ht⟩
       rw [HV3.out]
       have HN4 : Hid (RawSt w (w.heap.size + 1) (w.heap.size + 1 + 1) (l.drop 10) _ w4) := Lib.hid (HS3.out.next hf ((by rw [List.drop_drop] at ht; exact ht)))
       have x4 := HN4.out.x.cell (j := 5) rfl
       have f4 := HN4.out.x.frozen 5
       have HS4 : Hid (RawSt w (w.heap.size + 1) (w.heap.size + 1 + 1) (l.drop 10) #[.string ⟨#[]⟩, .string ⟨#[]⟩, .int .i64 x0, .int .i64 v1, .int .i64 v2, .int .i64 v3] (w4.setCell ⟨(w.heap.size + 1 + 1), 5, none⟩ (.int .i64 v3))) := Lib.hid (HN4.out.put 5 (.int .i64 v3))
       clear hf ht tok4 _t)
    | (go_at_call 73
       have _t := tok5
       refine (number_any' 2 (by decide) HS4.out.tk).mono ?_
       rintro e w5 ⟨rfl, hf, ht⟩
       rw [HM.out]
       have HN5 : Hid (RawSt w (w.heap.size + 1) (w.heap.size + 1 + 1) (l.drop 12) _ w5) := Lib.hid (HS4.out.next hf (by rw [List.drop_drop] at ht; exact ht))
       clear hf ht tok5 _t)
    | (go_at_call 122
       have _t := tok6
       refine (text_any m HNV.out HN5.out.tk).mono ?_
       rintro e w6 ⟨rfl, hf, ht⟩
       rw [HS0'.out]
       have HN6 : Hid (RawSt w (w.heap.size + 1) (w.heap.size + 1 + 1) ((l.drop 12).drop m) _ w6) := Lib.hid (HN5.out.next hf ht)
       have x6 := HN6.out.x.cell (j := 0) rfl
       have f6 := HN6.out.x.frozen 0
       have HS6 : Hid (RawSt w (w.heap.size + 1) (w.heap.size + 1 + 1) ((l.drop 12).drop m) #[.string s0, .string ⟨#[]⟩, .int .i64 x0, .int .i64 v1, .int .i64 v2, .int .i64 v3] (w6.setCell ⟨(w.heap.size + 1 + 1), 0, none⟩ (.string s0))) := Lib.hid (HN6.out.put 0 (.string s0))
       clear hf ht tok6 _t)
    | (go_at_call 122
       refine (text_any n HNN.out HS6.out.tk).mono ?_
       rintro e w7 ⟨rfl, hf, ht⟩
       rw [HTK.out, HS1'.out]
       have HN7 := Lib.hid (HS6.out.next hf ht)
       clear hf ht
       have x7 := HN7.out.x.cell (j := 1) rfl
       have f7 := HN7.out.x.frozen 1
       have HS7 : Hid (RawSt w (w.heap.size + 1) (w.heap.size + 1 + 1) (((l.drop 12).drop m).drop n) #[.string s0, .string s1, .int .i64 x0, .int .i64 v1, .int .i64 v2, .int .i64 v3] (w7.setCell ⟨(w.heap.size + 1 + 1), 1, none⟩ (.string s1))) := Lib.hid (HN7.out.put 1 (.string s1))
       obtain ⟨y0, y1, y2, y3, y4, y5⟩ := HS7.out.x.c6
       have hwr : Wr (w7.setCell ⟨(w.heap.size + 1 + 1), 1, none⟩ (.string s1)) w.heap.size 27 6 := HS7.out.r.wr))
  have HR := Lib.hid (HS7.out.r.row #[.string s0, .string s1, .int .i64 x0, .int .i64 v1, .int .i64 v2, .int .i64 v3]).c6
  exact bodyPost_ret (v := .agg #[.string s0, .string s1, .int .i64 x0, .int .i64 v1, .int .i64 v2, .int .i64 v3]) (by simp [results, Try.results16, go_sem, HR.out]) rfl ⟨rfl, below_setRow HS7.out.far (Nat.le_refl _) _⟩
end Go.Proofs.Ytppejoccljfblaa
