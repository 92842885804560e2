/-
  'append' of a row that may be empty onto a slice of the call's own. No condition but sizes.
-/
import Derived.Test.YtcoiagfeoonpbaaGreatSm34
import Derived.Test.YtcoiagfeoonpbaaGreatSm37
import Derived.Deep.RegionLawGrows
import Derived.Deep.AppendSrc
set_option maxHeartbeats 20000000
set_option maxRecDepth 100000
namespace Go.Proofs.YtcoiagfeoonpbaaGreat
section
open Go.RowKit
section
variable {P:Program} {w:World} {t e:TypeId} {z:Value} {sz bytes:Nat}
end
end
section
open Go.RowKit
def Md1.ds:Md1→List Da | .ok ds _=>ds | .bad .. =>[]
def Md1.rs:Md1→List Ru | .ok _ rs=>rs | .bad .. =>[]
def Md1.k:Md1→Int | .ok .. =>0 | .bad k _ _=>k
def Md1.l:Md1→Int | .ok .. =>0 | .bad _ l _=>l
def Md1.c:Md1→Int | .ok .. =>0 | .bad _ _ c=>c
def MdOne (r:Md1) (W:World) (e:Ending) (w':World):Prop:=
  ∃ a m c a' m' c',e=.returned (.tuple #[.agg #[.slice a m c,.slice a' m' c'],.agg #[.int .i64 r.k,.int .i64 r.l,.int .i64 r.c]])∧Below W.heap.size W w'∧Mem (Nw 0 W.heap.size w'.heap.size) w' (.s 5 (r.ds.map Da.row)) (.slice a m c)∧Mem (Nw 0 W.heap.size w'.heap.size) w' (.s 11 (r.rs.map Ru.row)) (.slice a' m' c')
theorem mparse_one (s:ByteArray) (w:World) (hs:s.size≤1000000):Calls Tryz.prog 6 #[.string s] w (MdOne (modE s) w):=by
  refine (mparse_any s w hs).mono ?_;intro e w' h
  cases hr:modE s with
  | ok ds rs=>rw [hr] at h;exact h
  | bad k l c =>
    rw [hr] at h;exact ⟨none,0,0,none,0,0,h.1,h.2,.e none 0 5 (by decide),.e none 0 11 (by decide)⟩
theorem mod_zero {s:ByteArray} (h:(modE s).k=0):modE s=.ok (modE s).ds (modE s).rs:=by
  cases hr:modE s with
  | ok ds rs=>rfl
  | bad k l c =>
    rw [hr] at h;replace h:k=0:=h;subst h
    exfalso
    unfold modE at hr
    split at hr
    · obtain ⟨r,e⟩:=itemsA_some (toksA s)
      rw [e] at hr;unfold endM at hr;simp only at hr
      split at hr
      · cases hr
      · cases hr
    · rename_i h0
      injection hr with e1
      exact h0 e1
end
end Go.Proofs.YtcoiagfeoonpbaaGreat
