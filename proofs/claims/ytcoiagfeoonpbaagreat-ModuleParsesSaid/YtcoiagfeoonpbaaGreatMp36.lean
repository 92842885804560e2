/-
  SameType: whether two types are the same. No condition but how they lie.
-/
import Derived.Test.YtcoiagfeoonpbaaGreatMp3
import Derived.StillTailTactics
set_option maxHeartbeats 20000000
set_option maxRecDepth 100000
namespace Go.Proofs.YtcoiagfeoonpbaaGreat
section
open Go.RowKit
noncomputable instance tmDec:DecidableEq Tm:=fun _ _=>Classical.propDecidable _
attribute [local go_sem] toList_beq
theorem neq_toList (a b:ByteArray):(a.toList != b.toList)=(a != b):=by rw [bne,bne,toList_beq]
attribute [local go_sem] neq_toList
theorem tm_ext {t u:Tm} (a:t.kind=u.kind) (b:t.name=u.name) (d:t.n=u.n) (e:t.args=u.args):t=u:=by
  rw [←t.eta, ←u.eta,a,b,d,e]
theorem sameType_any (m:Nat):∀ (t u:Tm) (n n' cap cap':Nat) (a a':Option Addr) (w:World),t.size≤m→Tms w t.args a n cap→Tms w u.args a' n' cap'→
    Calls Tryz.prog 67 #[.agg #[.int .i64 t.kind,.string t.name,.int .i64 t.n,.slice a n cap],.agg #[.int .i64 u.kind,.string u.name,.int .i64 u.n,.slice a' n' cap']] w fun e w'=>e=.returned (.bool (decide (t=u)))∧Below w.heap.size w w':=by
  induction m with
  | zero=>intro t u _ _ _ _ _ _ w h;have :=t.size_pos;omega
  | succ m ih =>
    intro t u n n' cap cap' a a' w hm h h';have IH:=zz ih;clear ih;have hl:=h.len;have hl':=h'.len;have H:=zz h;have H':=zz h';clear h h'
    by_cases hk:t.kind=u.kind
    · have e1:(t.kind != u.kind)=false:=by rw [bne_eq_false_iff_eq];exact hk
      by_cases hs:t.name=u.name
      · have e2:(t.name==u.name)=true:=by rw [beq_iff_eq];exact hs
        by_cases hn:t.n=u.n
        · have e3:(t.n != u.n)=false:=by rw [bne_eq_false_iff_eq];exact hn
          by_cases ha:n=n'
          · have HE:=zz (fun (e:t.args=u.args)=>tm_ext hk hs hn e)
            have hsz:=zz (Tm.len_args t.args)
            have HA:=zz (show ∀ x∈t.args,x.size≤m from fun x hx=>by have :=Tm.size_arg hx;omega)
            clear hk hs hn hm hsz;subst ha;have hln:=zz hl.1;have hln':=zz hl'.1;have hcap:=hl.2.1;have hmx:=hl.2.2;have hcap':=hl'.2.1;have hmx':=hl'.2.2;clear hl hl';go_enter Tryz.func67,Tryz.ntmps67
            go_wp2
            go_loopw [5,37] (fun _ i wr=>∃ k:Nat,k≤n∧i=.int .i64 k∧Hid (Below w.heap.size w wr)∧Hid (Bx wr w.heap.size [.int .i64 t.kind,.string t.name,.int .i64 t.n,.slice a n cap])∧Hid (Bx wr (w.heap.size+1) [.int .i64 u.kind,.string u.name,.int .i64 u.n,.slice a' n cap'])∧Hid (∀ j,j<k→t.args[j]?=u.args[j]?)) (fun _ i _=>n - (intOf i).toNat)
            case atStart=>exact ⟨0,Nat.zero_le _,rfl,(below_new _ _).alloc (by simp) _,(Bx.new _ _ _).alloc _,zz (World.size_alloc w _ ▸ Bx.new _ _ _),fun j h0=>by omega⟩
            case round=>
              obtain ⟨k,hk,rfl,HB,HX,HY,Hn⟩:=hrel
              by_cases hlt:k<n
              · have c1:=HX.out.2 3 (by simp)
                have c2:=HY.out.2 3 (by simp);simp only [List.getElem_cons_succ,List.getElem_cons_zero] at c1 c2;obtain ⟨b,o,x,ax,nx,capx,rfl,hbB,Hx,x0,x1,x2,x3,GX⟩:=(H.out.keep HB.out).at k hlt;obtain ⟨b',o',y,ay,ny,capy,rfl,hbB',Hy,y0,y1,y2,y3,GY⟩:=(H'.out.keep HB.out).at k hlt;have GA:=zz (HA.out x (mem_of_at Hx.out))
                by_cases hxy:x=y
                · have HD:=zz (decide_eq_true hxy)
                  have HN:Hid (∀ j,j<k+1→t.args[j]?=u.args[j]?):=fun j hj=>by
                    rcases Nat.lt_or_ge j k with h2 | h2
                    · exact Hn.out j h2
                    · obtain rfl:j=k:=by omega
                      rw [Hx.out,Hy.out,hxy]
                  clear hxy
                  go_wp2
                  go_still_tail 10,(by kernel_rfl)
                  change wpList _ _ _ _ _ wr.drew
                  go_wp2_with (first | (go_at_call 67;refine (IH.out x y _ _ _ _ _ _ _ GA.out (MemW.drew GX.out) (MemW.drew GY.out)).mono ?_;rintro e w2 ⟨rfl,hb⟩;rw [HD.out];have HB2:=zz hb;clear hb))
                  go_roundw
                  case rel=>exact ⟨k+1,by omega,by go_num,Below.toD HB.out HB2.out,HX.out.keep (Below.one HB2.out),HY.out.keep (Below.one HB2.out),HN.out⟩
                  case measure=>simp [intOf];omega
                · have HD:=zz (decide_eq_false hxy)
                  have HF:=zz (decide_eq_false (p:=t=u) (fun e=>hxy (by have :=Hx.out.symm.trans ((by rw [e]:t.args[k]?=u.args[k]?).trans Hy.out);exact Option.some.inj this)))
                  clear hxy
                  go_wp2
                  go_still_tail 10,(by kernel_rfl)
                  change wpList _ _ _ _ _ wr.drew
                  go_wp2_with (first | (go_at_call 67;refine (IH.out x y _ _ _ _ _ _ _ GA.out (MemW.drew GX.out) (MemW.drew GY.out)).mono ?_;rintro e w2 ⟨rfl,hb⟩;rw [HD.out];have HB2:=zz hb;clear hb))
                  go_ret;exact ⟨ret_bool HF.out.symm,Below.toD HB.out HB2.out⟩
              · have HT:=zz (decide_eq_true (p:=t=u) (HE.out (List.ext_getElem? fun j=>by
                  rcases Nat.lt_or_ge j k with h2 | h2
                  · exact Hn.out j h2
                  · rw [List.getElem?_eq_none (by rw [hln.out];omega),List.getElem?_eq_none (by rw [hln'.out];omega)])))
                go_wp2
                go_ret;exact ⟨ret_bool HT.out.symm,HB.out⟩
          · have HF:=zz (decide_eq_false (p:=t=u) (fun e=>ha (by rw [←hl.1, ←hl'.1,e])))
            have e4:((n:Int) != (n':Int))=true:=by rw [bne_iff_ne];omega
            clear hk hs hn ha hl hl';go_enter Tryz.func67,Tryz.ntmps67
            go_wp2
            go_ret;exact ⟨ret_bool HF.out.symm,(below_new _ _).alloc (by simp) _⟩
        · have HF:=zz (decide_eq_false (p:=t=u) (fun e=>hn (by rw [e])))
          have e3:(t.n != u.n)=true:=by rw [bne_iff_ne];exact hn
          clear hk hs hn hl hl';go_enter Tryz.func67,Tryz.ntmps67
          go_wp2
          go_ret;exact ⟨ret_bool HF.out.symm,(below_new _ _).alloc (by simp) _⟩
      · have HF:=zz (decide_eq_false (p:=t=u) (fun e=>hs (by rw [e])))
        have e2:(t.name==u.name)=false:=by rw [beq_eq_false_iff_ne];exact hs
        clear hk hs hl hl';go_enter Tryz.func67,Tryz.ntmps67
        go_wp2
        go_ret;exact ⟨ret_bool HF.out.symm,(below_new _ _).alloc (by simp) _⟩
    · have HF:=zz (decide_eq_false (p:=t=u) (fun e=>hk (by rw [e])))
      have e1:(t.kind != u.kind)=true:=by rw [bne_iff_ne];exact hk
      clear hk hl hl';go_enter Tryz.func67,Tryz.ntmps67
      go_wp2
      go_ret;exact ⟨ret_bool HF.out.symm,(below_new _ _).alloc (by simp) _⟩
end
end Go.Proofs.YtcoiagfeoonpbaaGreat
