/-
  The walks of digits and numbers, in chars and in the document's answer. No condition but sizes.
-/
import Derived.Test.YtcoiagfeoonpbaaGreatSm0
set_option maxHeartbeats 20000000
set_option maxRecDepth 100000
namespace Go.Proofs.YtcoiagfeoonpbaaGreat
section
open Go.RowKit
attribute [local go_sem] toList_beq empty_beq conv_one
theorem rdigits_any (N:Nat) (w:World) (hN:N≤18446744073709551615):
    Calls Tryz.prog 142 #[.int .u64 N] w fun e w'=>e=.returned (.string ⟨(dec N).toArray⟩)∧Below w.heap.size w w':=by
  have HN:=zz hN;clear hN;go_enter Tryz.func142,Tryz.ntmps142
  go_wp2
  go_loopw [0,3] (fun u s wr=>∃ (n:Nat) (l:List UInt8),(n:Int)≤18446744073709551615∧l.length≤19∧u=.int .u64 n∧s=.string ⟨l.toArray⟩∧Hid (dec N=(decR n).reverse++l)∧Hid (Below w.heap.size w wr)) (fun u _ _=>(intOf u).toNat)
  case atStart=>exact ⟨N,[],by have :=HN.out;omega,by decide,rfl,rfl,by simp [Hid,dec],Below.refl _ _⟩
  case round=>
    obtain ⟨n,l,hn,hl,rfl,rfl,HD,HB⟩:=hrel
    by_cases h10:n<10
    · clear hn
      have HF:=zz (dec_last N n l HD.out h10)
      go_wp2
      go_ret;exact ⟨ret_str (cons_str _ _ _ HF.out),HB.out.alloc HB.out.size _⟩
    · have HF:=zz (dec_round N n l HD.out h10)
      have HL:=zz (dec_size N (n / 10) _ HF.out HN.out)
      go_wp2
      go_round
      case rel=>exact ⟨n / 10,_,by omega,HL.out,by go_num,congrArg Value.string (cons_str _ _ _ rfl),HF.out,HB.out.alloc HB.out.size _⟩
      case measure=>simp [intOf];omega
theorem rdigits_int (u:Int) (w:World) (h0:0≤u) (h1:u≤18446744073709551615):
    Calls Tryz.prog 142 #[.int .u64 u] w fun e w'=>e=.returned (.string ⟨(dec u.toNat).toArray⟩)∧Below w.heap.size w w':=by
  obtain ⟨N,rfl⟩:=Int.eq_ofNat_of_zero_le h0;exact rdigits_any N w (by omega)
theorem rDigits_any (n:Int) (w:World) (h0: -9223372036854775808≤n) (h1:n≤9223372036854775807):
    Calls Tryz.prog 117 #[.int .i64 n] w fun e w'=>e=.returned (.string ⟨(digs n).toArray⟩)∧Below w.heap.size w w':=by
  by_cases hn:n<0
  · have HF:=zz (digs_neg n (-(n+1)+1) hn (by omega))
    have hL:(dec (-(n+1)+1).toNat).length≤20:=dec_len _ (by omega);go_enter Tryz.func117,Tryz.ntmps117
    go_wp2_with (go_at_call 142;refine (rdigits_int _ _ (by omega) (by omega)).mono ?_;rintro e w' ⟨rfl,hb⟩)
    go_ret;exact ⟨ret_str (minus_str _ _ HF.out),hb⟩
  · have HF:=zz (digs_pos n hn)
    go_enter Tryz.func117,Tryz.ntmps117
    go_wp2_with (go_at_call 142;refine (rdigits_int _ _ (by omega) (by omega)).mono ?_;rintro e w' ⟨rfl,hb⟩)
    go_ret;exact ⟨ret_str (by rw [HF.out]),hb⟩
end
end Go.Proofs.YtcoiagfeoonpbaaGreat
