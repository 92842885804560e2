/-
  The law ScriptPacks' last statement: all that the session read out of the bytes is what the law says. No condition but how the bytes lie.
-/
import Derived.Test.YtppejoccljfblaaAt37
namespace Go.Proofs.Ytppejoccljfblaa
open Go.RowKit
attribute [local go_sem] toList_beq

/-- A region of a code, by its number. -/
def regAt (k : Nat) : Code → Code
  | .region id ops d => if id = k then .region id ops d else .skip
  | .seq x y => match regAt k x with | .skip => regAt k y | c => c
  | .cond _ x y => match regAt k x with | .skip => regAt k y | c => c
  | .block _ x => regAt k x
  | .loop x => regAt k x
  | .rangeFunc _ _ x y => match regAt k x with | .skip => regAt k y | c => c
  | .scope x => regAt k x
  | _ => .skip
theorem conv_at {B : Nat} {W : World} {a X : Option Addr} {n cap : Nat} {l : List UInt8} (h : Rd B W a n cap 1 (u8s l)) (p k cap' : Nat) (hpk : p + k ≤ n) (hX : ∀ b o, a = some ⟨b, o, none⟩ → X = some ⟨b, o + p, none⟩) {S : ByteArray} (hS : S = ⟨((l.drop p).take k).toArray⟩) :
    (convert 22 9 (.slice X k cap')).run Try.prog W = .ok (.string S) W := by
  subst hS
  by_cases hk : k = 0
  · subst hk
    rw [conv_empty, List.take_zero]; rfl
  · have hl := h.u8Len
    obtain ⟨b, o, rfl, _, _⟩ := h.u8At 0 (by omega)
    obtain rfl := hX b o rfl
    refine conv_bytes W b (o + p) k cap' _ (by rw [List.length_take, List.length_drop]; omega) fun j hj => ?_
    obtain ⟨_, _, e, hl', hc'⟩ := h.u8At (p + j) (by omega)
    cases e
    rw [Nat.add_assoc, hc', List.getD_eq_getElem?_getD, List.getElem?_take_of_lt hj, List.getElem?_drop, List.getElem?_eq_getElem hl']; rfl
theorem wraps_b {b : Nat → Nat} (h : ∀ i, b i < 256) : (∀ i, IntKind.i64.wrap (65536 * (b i : Int)) = 65536 * (b i : Int)) ∧ (∀ i, IntKind.i64.wrap (256 * (b i : Int)) = 256 * (b i : Int)) ∧ (∀ i j, IntKind.i64.wrap (65536 * (b i : Int) + 256 * (b j : Int)) = 65536 * (b i : Int) + 256 * (b j : Int)) ∧ (∀ i j k, IntKind.i64.wrap (65536 * (b i : Int) + 256 * (b j : Int) + (b k : Int)) = 65536 * (b i : Int) + 256 * (b j : Int) + (b k : Int)) := by
  refine ⟨fun i => ?_, fun i => ?_, fun i j => ?_, fun i j k => ?_⟩
  · have := h i; rw [IntKind.wrap_i64]; omega
  · have := h i; rw [IntKind.wrap_i64]; omega
  · have := h i; have := h j; rw [IntKind.wrap_i64]; omega
  · have := h i; have := h j; have := h k; rw [IntKind.wrap_i64]; omega

set_option maxRecDepth 100000 in
set_option maxHeartbeats 20000000 in
theorem packs18 {a X : Option Addr} {n cap nr cq K g : Nat} {l : List UInt8} {b : Nat → Nat} {S0 S1 : ByteArray} {W : World} {Q : Exit → Act → World → Prop} {c : Code} {z4 : Value} {u0 u2 u3 u5 u6 u7 u8 u9 u11 u14 u15 u16 u17 u18 u19 u20 u21 u22 u23 u24 u25 u26 u27 u28 u29 u30 u31 u32 u33 u34 u35 u36 u37 u38 u39 u40 u41 u42 u43 u44 u45 u46 u47 u48 u49 u50 u51 u52 u53 u54 u55 u56 u57 u58 u59 u60 u61 u62 u63 u64 u65 u66 u67 u68 u69 u70 u71 u72 u73 u74 u75 u76 u77 u78 u79 u80 u81 u82 u83 u84 u85 u86 u87 u88 u89 u90 u91 u92 u93 u94 u95 u96 u97 u98 u99 u100 u101 u102 u103 u104 u105 u106 u107 u108 u109 u110 u111 u112 u113 u114 u115 u116 u117 u118 u119 u120 u121 u122 u123 u124 u125 u126 u127 u128 u129 u130 u131 u132 u133 u134 u135 u136 u137 u138 u139 u140 u141 u142 u143 u144 u145 u146 u147 u148 u149 u150 u151 u152 u153 u154 u155 u156 u157 u158 u159 u160 u161 u162 u163 u164 u165 u166 u167 u168 u169 u170 u171 u172 u173 u174 u175 u176 u177 : Value} (hc : regAt 18 (Try.f6.body.getD .skip) = c)
    (h : Rd W.heap.size W a n cap 1 (u8s l)) (hb : ∀ i, (l.getD i 0).toNat = b i) (hKn : K ≤ nr) (hnc : nr ≤ cq) (hcq : cq ≤ 9223372036854775807)
    (t0 : W.cell? ⟨g, 0, none⟩ = some (.string S0)) (t1 : W.cell? ⟨g, 1, none⟩ = some (.string S1)) (t2 : W.cell? ⟨g, 2, none⟩ = some (.int .i64 (b 0))) (t3 : W.cell? ⟨g, 3, none⟩ = some (.int .i64 (65536 * (b 1 : Int) + 256 * (b 2 : Int) + (b 3 : Int)))) (t4 : W.cell? ⟨g, 4, none⟩ = some (.int .i64 (65536 * (b 4 : Int) + 256 * (b 5 : Int) + (b 6 : Int)))) (t5 : W.cell? ⟨g, 5, none⟩ = some (.int .i64 (65536 * (b 7 : Int) + 256 * (b 8 : Int) + (b 9 : Int))))
    (hc0 : ∀ m, (convert 22 9 (.slice X K cq)).run Try.prog (W.drewN m) = .ok (.string S0) (W.drewN m)) (hc1 : ∀ m, (convert 22 9 (.slice (if cq = K then X else Option.map (fun x => x.add K) X) (nr - K) (cq - K))).run Try.prog (W.drewN m) = .ok (.string S1) (W.drewN m))
    (hQ : ∀ (m : Nat) (x107 x108 x109 x110 x111 x112 x113 x114 x115 x116 x117 x118 x119 x120 x121 x122 x123 x124 x125 x126 x127 x128 x129 x130 x131 x132 x133 x134 x135 x136 x137 x138 x139 x140 x141 x142 x143 x144 x145 x146 x147 x148 x149 x150 x151 x152 x153 x154 x155 x156 x157 x158 x159 x160 x161 x162 x163 x164 x165 x166 x167 x168 x169 x170 x171 x172 x173 x174 x175 x176 x177 : Value), Q .normal { tmps := #[u0, .slice a n cap, u2, u3, .bool true, u5, u6, u7, u8, u9, .pointer (some ⟨g, 0, none⟩), u11, .slice X nr cq, .int .i64 (K : Int), u14, u15, u16, u17, u18, u19, u20, u21, u22, u23, u24, u25, u26, u27, u28, u29, u30, u31, u32, u33, u34, u35, u36, u37, u38, u39, u40, u41, u42, u43, u44, u45, u46, u47, u48, u49, u50, u51, u52, u53, u54, u55, u56, u57, u58, u59, u60, u61, u62, u63, u64, u65, u66, u67, u68, u69, u70, u71, u72, u73, u74, u75, u76, u77, u78, u79, u80, u81, u82, u83, u84, u85, u86, u87, u88, u89, u90, u91, u92, u93, u94, u95, u96, u97, u98, u99, u100, u101, u102, u103, u104, u105, u106, x107, x108, x109, x110, x111, x112, x113, x114, x115, x116, x117, x118, x119, x120, x121, x122, x123, x124, x125, x126, x127, x128, x129, x130, x131, x132, x133, x134, x135, x136, x137, x138, x139, x140, x141, x142, x143, x144, x145, x146, x147, x148, x149, x150, x151, x152, x153, x154, x155, x156, x157, x158, x159, x160, x161, x162, x163, x164, x165, x166, x167, x168, x169, x170, x171, x172, x173, x174, x175, x176, x177], defers := [] } (W.drewN m)) :
    Code.wp Try.prog c Q { tmps := #[u0, .slice a n cap, u2, u3, z4, u5, u6, u7, u8, u9, .pointer (some ⟨g, 0, none⟩), u11, .slice X nr cq, .int .i64 (K : Int), u14, u15, u16, u17, u18, u19, u20, u21, u22, u23, u24, u25, u26, u27, u28, u29, u30, u31, u32, u33, u34, u35, u36, u37, u38, u39, u40, u41, u42, u43, u44, u45, u46, u47, u48, u49, u50, u51, u52, u53, u54, u55, u56, u57, u58, u59, u60, u61, u62, u63, u64, u65, u66, u67, u68, u69, u70, u71, u72, u73, u74, u75, u76, u77, u78, u79, u80, u81, u82, u83, u84, u85, u86, u87, u88, u89, u90, u91, u92, u93, u94, u95, u96, u97, u98, u99, u100, u101, u102, u103, u104, u105, u106, u107, u108, u109, u110, u111, u112, u113, u114, u115, u116, u117, u118, u119, u120, u121, u122, u123, u124, u125, u126, u127, u128, u129, u130, u131, u132, u133, u134, u135, u136, u137, u138, u139, u140, u141, u142, u143, u144, u145, u146, u147, u148, u149, u150, u151, u152, u153, u154, u155, u156, u157, u158, u159, u160, u161, u162, u163, u164, u165, u166, u167, u168, u169, u170, u171, u172, u173, u174, u175, u176, u177], defers := [] } W := by
  have HR := Lib.hid h
  have HBF := Lib.hid hb
  have HQ := Lib.hid hQ
  obtain ⟨hw1, hw2, hw3, hw4⟩ := wraps_b (b := b) (fun i => by rw [← hb]; exact UInt8.toNat_lt _)
  have hKn2 : (K : Int) ≤ nr := by omega
  have hKc2 : (K : Int) ≤ cq := by omega
  have hnc2 : (nr : Int) ≤ cq := by omega
  clear h hb hQ
  subst hc
  show Code.wp Try.prog (Code.region 18 _ true) _ _ _
  simp only [List.append_eq, List.cons_append, List.nil_append]
  go_quiet ((go_at_call 25 ; refine (at37_int _ _ ((HR.out.mono (below_drewN (Below.refl W.heap.size W) _)).le (Nat.le_refl _)) HBF.out (by decide)).mono ?_; rintro e w'' ⟨rfl, rfl⟩; exact ⟨rfl, _, rfl⟩))
  exact HQ.out _ _ _ _ _ _ _ _ _ _ _ _ _ _ _ _ _ _ _ _ _ _ _ _ _ _ _ _ _ _ _ _ _ _ _ _ _ _ _ _ _ _ _ _ _ _ _ _ _ _ _ _ _ _ _ _ _ _ _ _ _ _ _ _ _ _ _ _ _ _ _ _
end Go.Proofs.Ytppejoccljfblaa
