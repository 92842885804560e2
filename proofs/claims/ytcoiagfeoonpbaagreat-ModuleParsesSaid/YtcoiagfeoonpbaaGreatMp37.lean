/-
  Fun: a function's type. No condition but how the arguments lie.
-/
import Derived.Test.YtcoiagfeoonpbaaGreatMp3
import Derived.Test.YtcoiagfeoonpbaaGreatMp5
import Derived.StillTailTactics
import Derived.Deep.RegionHeld3
import Derived.Test.YtcoiagfeoonpbaaGreatMp36
set_option maxHeartbeats 20000000
set_option maxRecDepth 100000
namespace Go.Proofs.YtcoiagfeoonpbaaGreat
section
open Go.RowKit
theorem store_type {b:Option Nat} {f:TypeId} {pos:String} {d:Array Edge} {e:Option (Nat × Bool)} {x y:Operand} {a:Act} {w:World} {K:Act→World→Prop} {Q:Exit→Act→World→Prop} (h:StOk 83 4 w (a.eval x) (a.eval y)):
    Oper.wp Tryz.prog { dst:=b,op:=.store 83 x y,type:=f,pos:=pos,after:=d,guard:=e } a w K Q=K (a.put b undef) (w.setRow (stB (a.eval x)) (stC (a.eval y))):=wp_store_T rfl (by kernel_rfl) h
theorem stOk_type {w:World} {g m c:Nat} {k n:Int} {s:ByteArray} {a:Option Addr} :StOk 83 4 w (.pointer (some ⟨g,0,none⟩)) (.agg #[.int .i64 k,.string s,.int .i64 n,.slice a m c])=Wr w g 83 4:=stOk_eq rfl (by simp [Value.oneCell'])
attribute [local go_sem ↓] store_type
attribute [local go_sem] stOk_type
attribute [local go_sem] stB_eq stC_eq wr_drew wr_alloc wr_row
end
section
open Go.RowKit
attribute [local go_sem ↓] store_type
attribute [local go_sem] stOk_type
attribute [local go_sem] stB_eq stC_eq wr_drew wr_alloc wr_row
attribute [local go_sem] toList_beq
theorem sameType {t u:Tm} {n f cap d:Nat} {a b:Option Addr} (w:World) (h:MemW w (.s 4 (Tm.rows t.args)) (.slice a n cap)) (g:MemW w (.s 4 (Tm.rows u.args)) (.slice b f d)):
    Calls Tryz.prog 67 #[.agg #[.int .i64 t.kind,.string t.name,.int .i64 t.n,.slice a n cap],.agg #[.int .i64 u.kind,.string u.name,.int .i64 u.n,.slice b f d]] w fun e i=>e=.returned (.bool (decide (t=u)))∧Below w.heap.size w i:=
  sameType_any t.size t u n f cap d a b w (Nat.le_refl _) h g
theorem sameTypes_any {l m:List Tm} {n z cap I:Nat} {a G:Option Addr} (w:World) (h:MemW w (.s 4 (Tm.rows l)) (.slice a n cap)) (D:MemW w (.s 4 (Tm.rows m)) (.slice G z I)):
    Calls Tryz.prog 30 #[.slice a n cap,.slice G z I] w fun e M=>e=.returned (.bool (decide (l=m)))∧Below w.heap.size w M:=by
  have r:=Tms.len h;have v:=Tms.len D;have F:=zz r.1;have HL':=zz v.1;have X:=r.2.1;have a0:=r.2.2;have Y:=v.2.1;have a1:=v.2.2;have H:=zz h;have H':=zz D;clear r v h D
  by_cases E:n=z
  · subst E
    go_enter Tryz.func30,Tryz.ntmps30
    go_wp2
    go_loopw [5,13] (fun _ i wr=>∃ k:Nat,k≤n∧i=.int .i64 k∧Hid (Below w.heap.size w wr)∧Hid (∀ j,j<k→l[j]?=m[j]?)) (fun _ i _=>n - (intOf i).toNat)
    case atStart=>exact ⟨0,Nat.zero_le _,rfl,Below.refl _ _,fun j U=>by omega⟩
    case round=>
      obtain ⟨k,hk,rfl,f,Hn⟩:=hrel
      by_cases J:k<n
      · obtain ⟨b,o,x,O,nx,R,rfl,V,Hx,x0,x1,x2,x3,GX⟩:=(Tms.keep H.out f.out).at k J
        obtain ⟨Q,o',y,P,ny,S,rfl,W,Hy,y0,y1,y2,y3,GY⟩:=(Tms.keep H'.out f.out).at k J
        by_cases d:x=y
        · have B:=zz (decide_eq_true d)
          have K:Hid (∀ j,j<k+1→l[j]?=m[j]?):=fun j Z=>by
            rcases Nat.lt_or_ge j k with g | g
            · exact Hn.out j g
            · obtain rfl:j=k:=by omega
              rw [Hx.out,Hy.out,d]
          clear d
          go_wp2
          go_still_tail 8,(by kernel_rfl)
          change wpList _ _ _ _ _ wr.drew
          go_wp2_with (first | (go_at_call 67;refine (sameType (t:=x) (u:=y) _ (MemW.drew GX.out) (MemW.drew GY.out)).mono ?_;rintro e N ⟨rfl,q⟩;rw [B.out];have A:=zz q;clear q))
          go_roundw
          case rel=>exact ⟨k+1,by omega,by go_num,Below.toD f.out A.out,K.out⟩
          case measure=>simp [intOf];omega
        · have B:=zz (decide_eq_false d)
          have C:=zz (decide_eq_false (p:=l=m) (fun e=>d (by have :=Hx.out.symm.trans ((by rw [e]:l[k]?=m[k]?).trans Hy.out);exact Option.some.inj this)))
          clear d
          go_wp2
          go_still_tail 8,(by kernel_rfl)
          change wpList _ _ _ _ _ wr.drew
          go_wp2_with (first | (go_at_call 67;refine (sameType (t:=x) (u:=y) _ (MemW.drew GX.out) (MemW.drew GY.out)).mono ?_;rintro e N ⟨rfl,q⟩;rw [B.out];have A:=zz q;clear q))
          go_ret;exact ⟨ret_bool C.out.symm,Below.toD f.out A.out⟩
      · have L:=zz (decide_eq_true (p:=l=m) (List.ext_getElem? fun j=>by
          rcases Nat.lt_or_ge j k with g | g
          · exact Hn.out j g
          · rw [List.getElem?_eq_none (by rw [F.out];omega),List.getElem?_eq_none (by rw [HL'.out];omega)]))
        go_wp2
        go_ret;exact ⟨ret_bool L.out.symm,f.out⟩
  · have C:=zz (decide_eq_false (p:=l=m) (fun e=>E (by rw [←F.out, ←HL'.out,e])))
    have T:((n:Int) != (z:Int))=true:=by rw [bne_iff_ne];omega
    clear E;go_enter Tryz.func30,Tryz.ntmps30
    go_wp2
    go_ret;exact ⟨ret_bool C.out.symm,Below.refl _ _⟩
end
end Go.Proofs.YtcoiagfeoonpbaaGreat
