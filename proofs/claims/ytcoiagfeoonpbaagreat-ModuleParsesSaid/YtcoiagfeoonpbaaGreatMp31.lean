/-
  SameExpr: two expressions that are alike (places too, where they are asked for) are told to be. No condition but how they lie.
-/
import Derived.Test.YtcoiagfeoonpbaaGreatMp8
import Derived.Test.YtcoiagfeoonpbaaGreatMp4
import Derived.StillTailTactics
set_option maxHeartbeats 20000000
set_option maxRecDepth 100000
namespace Go.Proofs.YtcoiagfeoonpbaaGreat
section
open Go.RowKit
theorem ex_atS {S:Nat→Prop} {w:World} {l:List Ex} {a:Option Addr} {m c:Nat} (h:Mem S w (.s 6 (Ex.rows l)) (.slice a m c)) (i:Nat) (j:i<l.length):
    ∃ b o x d f e,a=some ⟨b,o,none⟩∧S b∧Hid (l[i]?=some x)∧w.cell? ⟨b,o+i * 6,none⟩=some (.int .i64 x.kind)∧w.cell? ⟨b,o+i * 6+1,none⟩=some (.string x.name)∧w.cell? ⟨b,o+i * 6+2,none⟩=some (.int .i64 x.n)∧w.cell? ⟨b,o+i * 6+3,none⟩=some (.slice d f e)∧w.cell? ⟨b,o+i * 6+4,none⟩=some (.int .i64 x.line)∧w.cell? ⟨b,o+i * 6+5,none⟩=some (.int .i64 x.col)∧Hid (Mem S w (.s 6 (Ex.rows x.args)) (.slice d f e)):=by
  obtain ⟨b,o,x,d,f,e,rfl,r,g⟩:=ex_at h i j;obtain ⟨t,u,q,p,_⟩:=Mem.at h i (by rw [Ex.rows_len];exact j);cases q;exact ⟨b,o,x,d,f,e,rfl,p,r,g⟩
theorem memW_len {w:World} {l:List Ex} {a:Option Addr} {m c:Nat} (h:MemW w (.s 6 (Ex.rows l)) (.slice a m c)):l.length=m∧m≤c∧c≤9223372036854775807:=by
  have b:=Mem.len h;rw [Ex.rows_len] at b;exact b
attribute [local go_sem] toList_beq
theorem neq_toListE (a b:ByteArray):(a.toList != b.toList)=(a != b):=by rw [bne,bne,toList_beq]
attribute [local go_sem] neq_toListE
theorem sameE_any {p:Bool} {x y:Ex} (h:SamE p x y):∀ (n n' cap cap':Nat) (a a':Option Addr) (w:World),MemW w (.s 6 (Ex.rows x.args)) (.slice a n cap)→MemW w (.s 6 (Ex.rows y.args)) (.slice a' n' cap')→
    Calls Tryz.prog 31 #[exV x a n cap,exV y a' n' cap',.bool p] w fun e w'=>e=.returned (.bool true)∧Below w.heap.size w w':=by
  induction h with
  | mk kd s nn xs ys l c l' c' hl ha hp ih =>
    intro n n' cap cap' a a' w h h';have IH:=zz ih;clear ih ha;have hn1:=memW_len h;have hn2:=memW_len h';simp only [Ex.args] at hn1 hn2
    obtain rfl:n=n':=by omega
    have hln:=zz hn1.1;have hln':=zz hn2.1;have hcap:=hn1.2.1;have hmx:=hn1.2.2;have hcap':=hn2.2.1;have hmx':=hn2.2.2;have H:=zz (show MemW w (.s 6 (Ex.rows xs)) (.slice a n cap) from h);have H':=zz (show MemW w (.s 6 (Ex.rows ys)) (.slice a' n cap') from h');have HPP:=zz hp;clear hn1 hn2 h h' hl hp;simp only [exV,Ex.kind,Ex.name,Ex.n,Ex.line,Ex.col];have HQ:Hid (p=false∨(p=true∧l=l'∧c=c')):=zz (by cases p;exact .inl rfl;exact .inr ⟨rfl,HPP.out rfl⟩);clear HPP;go_enter Tryz.func31,Tryz.ntmps31
    have hself:(s != s)=false:=by simp
    rcases HQ.out with hq | ⟨hq,hq1,hq2⟩
    · clear HQ
      subst hq
      go_wp2
      go_loopw [7,49] (fun _ i wr=>∃ k:Nat,k≤n∧i=.int .i64 k∧Hid (Below w.heap.size w wr)∧Hid (Bx wr w.heap.size [.int .i64 kd,.string s,.int .i64 nn,.slice a n cap,.int .i64 l,.int .i64 c])∧Hid (Bx wr (w.heap.size+1) [.int .i64 kd,.string s,.int .i64 nn,.slice a' n cap',.int .i64 l',.int .i64 c'])) (fun _ i _=>n - (intOf i).toNat)
      case atStart=>exact ⟨0,Nat.zero_le _,rfl,(below_new _ _).alloc (by simp) _,(Bx.new _ _ _).alloc _,zz (World.size_alloc w _ ▸ Bx.new _ _ _)⟩
      case round=>
        obtain ⟨k,hk,rfl,HB,HX,HY⟩:=hrel
        by_cases hlt:k<n
        · have c1:=HX.out.2 3 (by simp)
          have c2:=HY.out.2 3 (by simp);simp only [List.getElem_cons_succ,List.getElem_cons_zero] at c1 c2
          have hkx:k<xs.length:=by have :=hln.out;omega
          have hky:k<ys.length:=by have :=hln'.out;omega
          obtain ⟨b,o,x,ax,nx,capx,rfl,hbB,Hx,x0,x1,x2,x3,x4,x5,GX⟩:=ex_atS (MemW.keep H.out HB.out) k hkx;obtain ⟨b',o',y,ay,ny,capy,rfl,hbB',Hy,y0,y1,y2,y3,y4,y5,GY⟩:=ex_atS (MemW.keep H'.out HB.out) k hky
          have HC:Hid (∀ w2:World,Below wr.heap.size wr w2→Calls Tryz.prog 31 #[exV x ax nx capx,exV y ay ny capy,.bool false] w2 fun e w'=>e=.returned (.bool true)∧Below w2.heap.size w2 w'):=zz (fun w2 hb2=>by
            have e1:xs[k]=x:=by have :=Hx.out;rw [List.getElem?_eq_getElem hkx] at this;exact Option.some.inj this
            have e2:ys[k]=y:=by have :=Hy.out;rw [List.getElem?_eq_getElem hky] at this;exact Option.some.inj this
            have h:=IH.out k hkx hky nx ny capx capy ax ay w2;rw [e1,e2] at h
            exact h (MemW.keep GX.out hb2) (MemW.keep GY.out hb2))
          simp only [exV] at HC;clear hkx hky
          go_wp2
          go_still_tail 11,(by kernel_rfl)
          change wpList _ _ _ _ _ wr.drew
          go_wp2_with (first | (go_at_call 31;refine (HC.out _ (below_drew _)).mono ?_;rintro e w2 ⟨rfl,hb⟩;have HB2:=zz hb;clear hb))
          go_roundw
          case rel=>exact ⟨k+1,by omega,by go_num,Below.toD HB.out HB2.out,HX.out.keep (Below.one HB2.out),HY.out.keep (Below.one HB2.out)⟩
          case measure=>simp [intOf];omega
        · go_wp2
          go_ret;exact ⟨rfl,HB.out⟩
    · clear HQ
      subst hq;subst hq1;subst hq2
      go_wp2
      go_loopw [7,49] (fun _ i wr=>∃ k:Nat,k≤n∧i=.int .i64 k∧Hid (Below w.heap.size w wr)∧Hid (Bx wr w.heap.size [.int .i64 kd,.string s,.int .i64 nn,.slice a n cap,.int .i64 l,.int .i64 c])∧Hid (Bx wr (w.heap.size+1) [.int .i64 kd,.string s,.int .i64 nn,.slice a' n cap',.int .i64 l,.int .i64 c])) (fun _ i _=>n - (intOf i).toNat)
      case atStart=>exact ⟨0,Nat.zero_le _,rfl,(below_new _ _).alloc (by simp) _,(Bx.new _ _ _).alloc _,zz (World.size_alloc w _ ▸ Bx.new _ _ _)⟩
      case round=>
        obtain ⟨k,hk,rfl,HB,HX,HY⟩:=hrel
        by_cases hlt:k<n
        · have c1:=HX.out.2 3 (by simp)
          have c2:=HY.out.2 3 (by simp);simp only [List.getElem_cons_succ,List.getElem_cons_zero] at c1 c2
          have hkx:k<xs.length:=by have :=hln.out;omega
          have hky:k<ys.length:=by have :=hln'.out;omega
          obtain ⟨b,o,x,ax,nx,capx,rfl,hbB,Hx,x0,x1,x2,x3,x4,x5,GX⟩:=ex_atS (MemW.keep H.out HB.out) k hkx;obtain ⟨b',o',y,ay,ny,capy,rfl,hbB',Hy,y0,y1,y2,y3,y4,y5,GY⟩:=ex_atS (MemW.keep H'.out HB.out) k hky
          have HC:Hid (∀ w2:World,Below wr.heap.size wr w2→Calls Tryz.prog 31 #[exV x ax nx capx,exV y ay ny capy,.bool true] w2 fun e w'=>e=.returned (.bool true)∧Below w2.heap.size w2 w'):=zz (fun w2 hb2=>by
            have e1:xs[k]=x:=by have :=Hx.out;rw [List.getElem?_eq_getElem hkx] at this;exact Option.some.inj this
            have e2:ys[k]=y:=by have :=Hy.out;rw [List.getElem?_eq_getElem hky] at this;exact Option.some.inj this
            have h:=IH.out k hkx hky nx ny capx capy ax ay w2;rw [e1,e2] at h
            exact h (MemW.keep GX.out hb2) (MemW.keep GY.out hb2))
          simp only [exV] at HC;clear hkx hky
          go_wp2
          go_still_tail 11,(by kernel_rfl)
          change wpList _ _ _ _ _ wr.drew
          go_wp2_with (first | (go_at_call 31;refine (HC.out _ (below_drew _)).mono ?_;rintro e w2 ⟨rfl,hb⟩;have HB2:=zz hb;clear hb))
          go_roundw
          case rel=>exact ⟨k+1,by omega,by go_num,Below.toD HB.out HB2.out,HX.out.keep (Below.one HB2.out),HY.out.keep (Below.one HB2.out)⟩
          case measure=>simp [intOf];omega
        · go_wp2
          go_ret;exact ⟨rfl,HB.out⟩
end
end Go.Proofs.YtcoiagfeoonpbaaGreat
