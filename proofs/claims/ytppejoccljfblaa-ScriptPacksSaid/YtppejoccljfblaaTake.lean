/-
  script.Take: a session of the document's program out of bytes. No condition but how the bytes lie.
-/
import Derived.Test.YtppejoccljfblaaRaw
import Derived.Test.YtppejoccljfblaaLines
import Derived.Test.YtppejoccljfblaaJoin
namespace Go.Proofs.Ytppejoccljfblaa
open Go.RowKit
attribute [local go_sem ↓] store_scr
attribute [local go_sem] stOk_scr stB_eq stC_eq wr_drew wr_alloc wr_row

def takeSrc : ByteArray := joinL ++ ⟨#[10]⟩
theorem TK.keep {B : Nat} {w w' : World} {q : Nat} {l : List UInt8} (h : TK B w q l) (hb : Below w.heap.size w w') : TK B w' q l := by
  obtain ⟨hB, a, n, cap, h1, h2⟩ := h
  exact ⟨hB, a, n, cap, (hb.block q h1.lt).trans h1, h2.mono (hb.mono (Nat.le_trans hB (Nat.le_of_lt h1.lt)))⟩
set_option maxRecDepth 100000 in
set_option maxHeartbeats 2000000 in
theorem take_any {a : Option Addr} {n cap : Nat} {l : List UInt8} (x0 x1 x2 x3 x4 r0 r1 r4 : Nat) (h0 : (l.headD 0).toNat = x0) (h1 : ((l.drop 1).headD 0).toNat = x1) (h2 : ((l.drop 2).headD 0).toNat = x2) (h3 : ((l.drop 3).headD 0).toNat = x3) (h4 : ((l.drop 4).headD 0).toNat = x4)
    (hr0 : x0 % 20 = r0) (hr1 : x1 % 3 = r1) (hr4 : x4 % 8 = r4) (g0 : ByteArray) (hg0 : goalsL[r0]? = some g0) (w : World) (h : Rd w.heap.size w a n cap 1 (u8s l)) :
    Calls Try.prog 15 #[.slice a n cap] w fun e w' => e = .returned (.agg #[.string takeSrc, .string g0, .int .i64 r1, .int .i64 (16 * (x2 : Int)), .int .i64 (64 + 8 * (x3 : Int)), .int .i64 r4]) ∧ Below w.heap.size w w' := by
  have b0 := h0 ▸ (l.headD 0).toNat_lt
  have b1 := h1 ▸ ((l.drop 1).headD 0).toNat_lt
  have b2 := h2 ▸ ((l.drop 2).headD 0).toNat_lt
  have b3 := h3 ▸ ((l.drop 3).headD 0).toNat_lt
  have b4 := h4 ▸ ((l.drop 4).headD 0).toNat_lt
  have H0 := Lib.hid h0
  have H1 := Lib.hid h1
  have H2 := Lib.hid h2
  have H3 := Lib.hid h3
  have H4 := Lib.hid h4
  have e0 : (x0 : Int).tmod 20 = (r0 : Int) := by rw [← hr0]; rfl
  have e1 : (x1 : Int).tmod 3 = (r1 : Int) := by rw [← hr1]; rfl
  have e4 : (x4 : Int).tmod 8 = (r4 : Int) := by rw [← hr4]; rfl
  have p8 : (2 : Nat) ^ 8 = 256 := rfl
  have i0 : (x0 : Int) < 256 := by omega
  have i1 : (x1 : Int) < 256 := by omega
  have i2 : (x2 : Int) < 256 := by omega
  have i3 : (x3 : Int) < 256 := by omega
  have i4 : (x4 : Int) < 256 := by omega
  have hr : r0 < 20 := by omega
  have hr' : (r0 : Int) < 20 := by omega
  clear p8 b0 b1 b2 b3 b4
  have tok1 : True := trivial
  have tok2 : True := trivial
  have tok3 : True := trivial
  have tok4 : True := trivial
  have tok5 : True := trivial
  have HG0 := Lib.hid hg0
  have HF3 : Hid (Below w.heap.size w ((((w.alloc (.cells #[.string ⟨#[]⟩, .string ⟨#[]⟩, .int .i64 0, .int .i64 0, .int .i64 0, .int .i64 0] 27)).alloc (.cells #[.slice a n cap] 22)).alloc (.cells goalsV 9)).alloc (.cells linesV 9))) := Lib.hid (((((Below.refl _ w).alloc (Nat.le_refl _) _).alloc (by simp) _).alloc (by simp; omega) _).alloc (by simp; omega) _)
  have HB0 : Hid (Bo ((((w.alloc (.cells #[.string ⟨#[]⟩, .string ⟨#[]⟩, .int .i64 0, .int .i64 0, .int .i64 0, .int .i64 0] 27)).alloc (.cells #[.slice a n cap] 22)).alloc (.cells goalsV 9)).alloc (.cells linesV 9)) w.heap.size 27 #[.string ⟨#[]⟩, .string ⟨#[]⟩, .int .i64 0, .int .i64 0, .int .i64 0, .int .i64 0]) := Lib.hid ((((Bo.new w 27 #[.string ⟨#[]⟩, .string ⟨#[]⟩, .int .i64 0, .int .i64 0, .int .i64 0, .int .i64 0]).alloc _).alloc _).alloc _)
  have HTK : Hid (TK w.heap.size ((((w.alloc (.cells #[.string ⟨#[]⟩, .string ⟨#[]⟩, .int .i64 0, .int .i64 0, .int .i64 0, .int .i64 0] 27)).alloc (.cells #[.slice a n cap] 22)).alloc (.cells goalsV 9)).alloc (.cells linesV 9)) (w.heap.size + 1) l) := by
    have q1 := ((Boxed.new (w.alloc (.cells #[.string ⟨#[]⟩, .string ⟨#[]⟩, .int .i64 0, .int .i64 0, .int .i64 0, .int .i64 0] 27)) 22 (.slice a n cap)).alloc (.cells goalsV 9)).alloc (.cells linesV 9)
    simp only [World.size_alloc] at q1
    exact Lib.hid ⟨by omega, a, n, cap, q1, h.mono HF3.out⟩
  have HGB : Hid (Bo ((((w.alloc (.cells #[.string ⟨#[]⟩, .string ⟨#[]⟩, .int .i64 0, .int .i64 0, .int .i64 0, .int .i64 0] 27)).alloc (.cells #[.slice a n cap] 22)).alloc (.cells goalsV 9)).alloc (.cells linesV 9)) (w.heap.size + 1 + 1) 9 goalsV) := by
    have q1 := (Bo.new ((w.alloc (.cells #[.string ⟨#[]⟩, .string ⟨#[]⟩, .int .i64 0, .int .i64 0, .int .i64 0, .int .i64 0] 27)).alloc (.cells #[.slice a n cap] 22)) 9 goalsV).alloc (.cells linesV 9)
    simp only [World.size_alloc] at q1
    exact Lib.hid q1
  have hj := join_lines (((w.alloc (.cells #[.string ⟨#[]⟩, .string ⟨#[]⟩, .int .i64 0, .int .i64 0, .int .i64 0, .int .i64 0] 27)).alloc (.cells #[.slice a n cap] 22)).alloc (.cells goalsV 9))
  simp only [World.size_alloc] at hj
  have HJ := Lib.hid hj
  clear hj
  have HLN := Lib.hid lines_any
  have HGN := Lib.hid goals_any
  have hgv : goalsV[r0]? = some (.string g0) := by rw [goalsV, List.getElem?_toArray, strs, List.getElem?_map, hg0]; rfl
  have hjs : ¬ (9223372036854775807 < joinL.size + 1) := by have := joinL_size; omega
  clear h h0 h1 h2 h3 h4 hr0 hr1 hr4 hg0
  generalize goalsV = GV at *
  generalize linesV = LV at *
  have HGV := Lib.hid hgv
  clear hgv
  unfold takeSrc
  generalize joinL = JL at *
  go_enter Try.func15, Try.ntmps15
  go_wp2_with (first
    | (go_at_call 71 ; refine (taking_any _ _ _ _).mono ?_; rintro e w' ⟨rfl, rfl⟩)
    | (go_at_call 18 ; refine (HGN.out _).mono ?_; rintro e w' ⟨rfl, rfl⟩)
    | (go_at_call 17 ; refine (HLN.out _).mono ?_; rintro e w' ⟨rfl, rfl⟩)
    | (go_at_call 72
       refine HJ.out.mono ?_
       rintro e w5 ⟨rfl, hb⟩
       have HB5 : Hid (Below (w.heap.size + 1 + 1 + 1 + 1) ((((w.alloc (.cells #[.string ⟨#[]⟩, .string ⟨#[]⟩, .int .i64 0, .int .i64 0, .int .i64 0, .int .i64 0] 27)).alloc (.cells #[.slice a n cap] 22)).alloc (.cells GV 9)).alloc (.cells LV 9)) w5) := Lib.hid hb
       have hz5 : w.heap.size + 1 + 1 + 1 + 1 ≤ w5.heap.size := by have := HB5.out.size; simp only [World.size_alloc] at this; exact this
       have HB5' : Hid (Below ((((w.alloc (.cells #[.string ⟨#[]⟩, .string ⟨#[]⟩, .int .i64 0, .int .i64 0, .int .i64 0, .int .i64 0] 27)).alloc (.cells #[.slice a n cap] 22)).alloc (.cells GV 9)).alloc (.cells LV 9)).heap.size ((((w.alloc (.cells #[.string ⟨#[]⟩, .string ⟨#[]⟩, .int .i64 0, .int .i64 0, .int .i64 0, .int .i64 0] 27)).alloc (.cells #[.slice a n cap] 22)).alloc (.cells GV 9)).alloc (.cells LV 9)) w5) := Lib.hid (hb.mono (by simp only [World.size_alloc]; exact Nat.le_refl _))
       have HS0 : Hid (RawSt w (w.heap.size + 1) w5.heap.size l #[.string (JL ++ ⟨#[10]⟩), .string ⟨#[]⟩, .int .i64 0, .int .i64 0, .int .i64 0, .int .i64 0] (w5.alloc (.cells #[.string (JL ++ ⟨#[10]⟩), .string ⟨#[]⟩, .int .i64 0, .int .i64 0, .int .i64 0, .int .i64 0] 27))) := Lib.hid ⟨by omega, by omega, TK.keep (TK.keep HTK.out HB5'.out) (below_new _ _), Bo.new w5 27 #[.string (JL ++ ⟨#[10]⟩), .string ⟨#[]⟩, .int .i64 0, .int .i64 0, .int .i64 0, .int .i64 0], (HB0.out.keep HB5'.out).alloc _, (HF3.out.trans (hb.mono (by omega))).alloc (by omega) _⟩
       have HG5 := Lib.hid ((HGB.out.keep HB5'.out).alloc (.cells #[.string (JL ++ ⟨#[10]⟩), .string ⟨#[]⟩, .int .i64 0, .int .i64 0, .int .i64 0, .int .i64 0] 27))
       clear hb)
    | (go_at_call 121
       have _t := tok1
       refine (next_any HS0.out.tk).mono ?_
       rintro e w6 ⟨rfl, hf, ht⟩
       rw [H0.out]
       have HN1 : Hid (RawSt w (w.heap.size + 1) w5.heap.size (l.drop 1) _ w6) := Lib.hid (HS0.out.next hf (by rw [← List.drop_one] at ht; exact ht))
       have c0 : w6.cell? ⟨w.heap.size + 1 + 1, r0, none⟩ = some (.string g0) := Bo.cell (q := w.heap.size + 1 + 1) ((hf.block (w.heap.size + 1 + 1) HG5.out.lt (by omega)).trans HG5.out) HGV.out
       have xx1 := HN1.out.x.cell (j := 1) rfl
       have ff1 := HN1.out.x.frozen 1
       have HS1 : Hid (RawSt w (w.heap.size + 1) w5.heap.size (l.drop 1) #[.string (JL ++ ⟨#[10]⟩), .string g0, .int .i64 0, .int .i64 0, .int .i64 0, .int .i64 0] (w6.setCell ⟨w5.heap.size, 1, none⟩ (.string g0))) := Lib.hid (HN1.out.put 1 (.string g0))
       clear hf ht tok1 _t)
    | (go_at_call 121
       have _t := tok2
       refine (next_any HS1.out.tk).mono ?_
       rintro e w7 ⟨rfl, hf, ht⟩
       rw [H1.out]
       have HN2 : Hid (RawSt w (w.heap.size + 1) w5.heap.size (l.drop 2) _ w7) := Lib.hid (HS1.out.next hf (by rw [List.tail_drop] at ht; exact ht))
       have xx2 := HN2.out.x.cell (j := 2) rfl
       have ff2 := HN2.out.x.frozen 2
       have HS2 : Hid (RawSt w (w.heap.size + 1) w5.heap.size (l.drop 2) #[.string (JL ++ ⟨#[10]⟩), .string g0, .int .i64 r1, .int .i64 0, .int .i64 0, .int .i64 0] (w7.setCell ⟨w5.heap.size, 2, none⟩ (.int .i64 r1))) := Lib.hid (HN2.out.put 2 (.int .i64 r1))
       clear hf ht tok2 _t)
    | (go_at_call 121
       have _t := tok3
       refine (next_any HS2.out.tk).mono ?_
       rintro e w8 ⟨rfl, hf, ht⟩
       rw [H2.out]
       have HN3 : Hid (RawSt w (w.heap.size + 1) w5.heap.size (l.drop 3) _ w8) := Lib.hid (HS2.out.next hf (by rw [List.tail_drop] at ht; exact ht))
       have xx3 := HN3.out.x.cell (j := 3) rfl
       have ff3 := HN3.out.x.frozen 3
       have HS3 : Hid (RawSt w (w.heap.size + 1) w5.heap.size (l.drop 3) #[.string (JL ++ ⟨#[10]⟩), .string g0, .int .i64 r1, .int .i64 (16 * (x2 : Int)), .int .i64 0, .int .i64 0] (w8.setCell ⟨w5.heap.size, 3, none⟩ (.int .i64 (16 * (x2 : Int))))) := Lib.hid (HN3.out.put 3 (.int .i64 (16 * (x2 : Int))))
       clear hf ht tok3 _t)
    | (go_at_call 121
       have _t := tok4
       refine (next_any HS3.out.tk).mono ?_
       rintro e w9 ⟨rfl, hf, ht⟩
       rw [H3.out]
       have HN4 : Hid (RawSt w (w.heap.size + 1) w5.heap.size (l.drop 4) _ w9) := Lib.hid (HS3.out.next hf (by rw [List.tail_drop] at ht; exact ht))
       have xx4 := HN4.out.x.cell (j := 4) rfl
       have ff4 := HN4.out.x.frozen 4
       have HS4 : Hid (RawSt w (w.heap.size + 1) w5.heap.size (l.drop 4) #[.string (JL ++ ⟨#[10]⟩), .string g0, .int .i64 r1, .int .i64 (16 * (x2 : Int)), .int .i64 (64 + 8 * (x3 : Int)), .int .i64 0] (w9.setCell ⟨w5.heap.size, 4, none⟩ (.int .i64 (64 + 8 * (x3 : Int))))) := Lib.hid (HN4.out.put 4 (.int .i64 (64 + 8 * (x3 : Int))))
       clear hf ht tok4 _t)
    | (go_at_call 121
       have _t := tok5
       refine (next_any HS4.out.tk).mono ?_
       rintro e w10 ⟨rfl, hf, ht⟩
       rw [H4.out]
       have HN5 : Hid (RawSt w (w.heap.size + 1) w5.heap.size (l.drop 5) _ w10) := Lib.hid (HS4.out.next hf (by rw [List.tail_drop] at ht; exact ht))
       have xx5 := HN5.out.x.cell (j := 5) rfl
       have ff5 := HN5.out.x.frozen 5
       have HS5 : Hid (RawSt w (w.heap.size + 1) w5.heap.size (l.drop 5) #[.string (JL ++ ⟨#[10]⟩), .string g0, .int .i64 r1, .int .i64 (16 * (x2 : Int)), .int .i64 (64 + 8 * (x3 : Int)), .int .i64 r4] (w10.setCell ⟨w5.heap.size, 5, none⟩ (.int .i64 r4))) := Lib.hid (HN5.out.put 5 (.int .i64 r4))
       obtain ⟨y0, y1, y2, y3, y4, y5⟩ := HS5.out.x.c6
       have hwr : Wr (w10.setCell ⟨w5.heap.size, 5, none⟩ (.int .i64 r4)) w.heap.size 27 6 := HS5.out.r.wr
       clear hf ht tok5 _t))
  have HR := Lib.hid (HS5.out.r.row #[.string (JL ++ ⟨#[10]⟩), .string g0, .int .i64 r1, .int .i64 (16 * (x2 : Int)), .int .i64 (64 + 8 * (x3 : Int)), .int .i64 r4]).c6
  exact bodyPost_ret (v := .agg #[.string (JL ++ ⟨#[10]⟩), .string g0, .int .i64 r1, .int .i64 (16 * (x2 : Int)), .int .i64 (64 + 8 * (x3 : Int)), .int .i64 r4]) (by simp [results, Try.results15, go_sem, HR.out]) rfl ⟨rfl, below_setRow HS5.out.far (Nat.le_refl _) _⟩
end Go.Proofs.Ytppejoccljfblaa
