/-
  strings.Builder: what is written on it, and its text. No condition but sizes.
-/
import Derived.Test.YtcoiagfeoonpbaaGreatSm26
import Derived.Test.YtcoiagfeoonpbaaGreatSm23
import Derived.Shelf.Strings.BuilderK
set_option maxHeartbeats 20000000
set_option maxRecDepth 100000
namespace Go.Proofs.YtcoiagfeoonpbaaGreat
section
open Go.RowKit
def BldS (B b:Nat) (l:List UInt8) (w:World):Prop:=Lib.IsBuilderF 95 5 B b (Lib.byteCells l) w
theorem byteCells_appS (a b:List UInt8):Lib.byteCells a++Lib.byteCells b=Lib.byteCells (a++b):=by simp [Lib.byteCells]
theorem BldS.new (w:World):BldS w.heap.size w.heap.size [] (w.alloc (.cells #[.pointer none,.slice none 0 0] 95)):=
  .inl (Lib.BuilderAtF.of ⟨Nat.le_refl _,.slice none 0 0,Bo.new w 95 _,World.ownsRow_nil _ _ _ 1,by simp [Value.ownBlock]⟩)
theorem writeS_any {B b:Nat} {l:List UInt8} (s:ByteArray) (w:World) (h:BldS B b l w) (hl:l.length+s.size≤100000000) (hB:B≤w.heap.size):
    Calls Tryz.prog 45 #[.pointer (some ⟨b,0,none⟩),.string s] w fun e w'=>e=.returned (.tuple #[.int .i64 s.size,.nilIface])∧BldS B b (l++s.data.toList) w'∧Below B w w':=by
  have hh:=Any.Builder_WriteString_k { lays156 with } joinExtra B b (Lib.byteCells l) s w h (by simp [Lib.byteCells];omega) hB
  refine hh.mono fun e w' ⟨he,h1,h2,h3⟩=>⟨he,?_,h2⟩
  have h4:Lib.byteCells l++Lib.strCells s=Lib.byteCells (l++s.data.toList):=by rw [Lib.strCells_eq,byteCells_appS]
  rw [h4] at h1;exact .inr h1
theorem stringS_any {B b:Nat} {l:List UInt8} (w:World) (h:BldS B b l w) (hB:B≤w.heap.size):
    Calls Tryz.prog 48 #[.pointer (some ⟨b,0,none⟩)] w fun e w'=>e=.returned (.string (str l))∧Below B w w':=
  (Any.Builder_String_any_k { lays156 with } joinExtra B b l w h hB).mono fun _ _ ⟨he,_,h2,_⟩=>⟨he,h2⟩
theorem BldS.keep {B b:Nat} {l:List UInt8} {w w':World} (h:BldS B b l w) (hb:Below w.heap.size w w'):BldS B b l w':=by
  have hf:w.grownBy w' none:=⟨hb.os,hb.tape,hb.output,hb.size,fun k hk _=>hb.block k hk⟩
  rcases h with h | h
  · have hlt:=h.lt
    obtain ⟨h1,v,h2,h3,h4⟩:=h;exact .inl ⟨h1,v,(hb.block b hlt).trans h2,h3.kept hf (Classical.em _),h4⟩
  · have hlt:=h.lt
    obtain ⟨h1,v,h2,h3,h4⟩:=h;exact .inr ⟨h1,v,(hb.block b hlt).trans h2,h3.kept hf (Classical.em _),h4⟩
theorem BldS.lt {B b:Nat} {l:List UInt8} {w:World} (h:BldS B b l w):b<w.heap.size:=by
  rcases h with h | h <;> exact h.lt
theorem below_far {n B:Nat} {w w':World} (h:Below B w w') (hB:n≤B):Far (fun b=>b=n∨n≤b) w w':=⟨h.os,h.tape,h.output,h.size,fun k _ hS=>h.block k (by omega)⟩
end
end Go.Proofs.YtcoiagfeoonpbaaGreat
