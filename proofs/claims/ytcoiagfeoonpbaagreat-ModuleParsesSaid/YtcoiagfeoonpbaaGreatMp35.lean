/-
  The walk of Texts: whether two lists of texts are the same. No condition but how they lie in memory.
-/
import Derived.Test.YtcoiagfeoonpbaaGreatMp1
import Derived.RegionTactic
import Derived.ChangeAlike
import Derived.Deep.QuietTactic
import Derived.BigQuiet
set_option maxHeartbeats 20000000
set_option maxRecDepth 100000
namespace Go.Proofs.YtcoiagfeoonpbaaGreat
section
open Go.RowKit
attribute [local go_sem] toList_beq empty_beq
theorem lists_take {α:Type} [BEq α] [LawfulBEq α] (l m:List α) (h:l.length=m.length) (a:∀ (j:Nat) (b:j<l.length) (d:j<m.length),l[j]=m[j]):(l==m)=true:=by
  rw [beq_iff_eq];exact List.ext_getElem h a
theorem lists_bad {α:Type} [BEq α] [LawfulBEq α] (l m:List α) (j:Nat) (b:j<l.length) (d:j<m.length) (a:l[j]≠m[j]):(l==m)=false:=by
  rw [beq_eq_false_iff_ne];rintro rfl;exact a rfl
theorem lists_len {α:Type} [BEq α] [LawfulBEq α] (l m:List α) (h:l.length≠m.length):(l==m)=false:=by
  rw [beq_eq_false_iff_ne];rintro rfl;exact h rfl
theorem texts_any {B B' n r cap v:Nat} {a u:Option Addr} {l m:List ByteArray} (w:World) (h:Rd B w a n cap 1 (strs l)) (g:Rd B' w u r v 1 (strs m)) (y:B≤w.heap.size) (z:B'≤w.heap.size):
    Calls Tryz.prog 9 #[.slice a n cap,.slice u r v] w fun e I=>e=.returned (.bool (l==m))∧Below w.heap.size w I:=by
  have N:=h.2.1;have R:=h.2.2.1;have O:=g.2.1;have S:=g.2.2.1;have t:=zz h.strLen;have HL':=zz g.strLen;have H:=zz (h.le y);have H':=zz (g.le z);clear h g y z
  by_cases C:n=r
  · subst C
    go_enter Tryz.func9,Tryz.ntmps9
    go_wp2
    go_loopw [5,13] (fun _ i wr=>∃ k:Nat,k≤n∧i=.int .i64 k∧Hid (Below w.heap.size w wr)∧Hid (∀ (j:Nat) (p:j<l.length) (q:j<m.length),j<k→l[j]=m[j])) (fun _ i _=>n - (intOf i).toNat)
    case atStart=>exact ⟨0,Nat.zero_le _,rfl,Below.refl _ _,fun j _ _ K=>by omega⟩
    case round=>
      obtain ⟨k,Q,rfl,f,Hn⟩:=hrel
      by_cases A:k<n
      · obtain ⟨b,o,rfl,F,L⟩:=(H.out.mono f.out).strAt k A
        obtain ⟨J,U,rfl,G,M⟩:=(H'.out.mono f.out).strAt k A
        by_cases d:l[k]=m[k]
        · have E:(l[k]==m[k])=true:=by rw [beq_iff_eq];exact d
          have D:Hid (∀ (j:Nat) (p:j<l.length) (q:j<m.length),j<k+1→l[j]=m[j]):=fun j p q P=>by
            rcases Nat.lt_or_ge j k with x | x
            · exact Hn.out j p q x
            · obtain rfl:j=k:=by omega
              exact d
          clear d
          go_wp2
          go_quiet (fail)
          go_wp2
          go_roundw
          case rel=>exact ⟨k+1,by omega,by go_num,below_drewN f.out _,D.out⟩
          case measure=>simp [intOf];omega
        · have E:(l[k]==m[k])=false:=by rw [beq_eq_false_iff_ne];exact d
          have s:=zz (lists_bad l m k F G d);clear d
          go_wp2
          go_quiet (fail)
          go_wp2
          go_ret;exact ⟨ret_bool s.out.symm,below_drewN f.out _⟩
      · go_wp2
        go_ret
        exact ⟨ret_bool (lists_take l m (t.out.trans HL'.out.symm) fun j p q=>Hn.out j p q (by have :=t.out;omega)).symm,f.out⟩
  · have T:((n:Int) != (r:Int))=true:=by rw [bne_iff_ne];omega
    have s:=zz (lists_len l m (by rw [t.out,HL'.out];exact C));go_enter Tryz.func9,Tryz.ntmps9
    go_wp2
    go_ret;exact ⟨ret_bool s.out.symm,Below.refl _ _⟩
end
end Go.Proofs.YtcoiagfeoonpbaaGreat
