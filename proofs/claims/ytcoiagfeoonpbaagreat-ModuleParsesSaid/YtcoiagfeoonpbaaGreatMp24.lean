/-
  The walk of slices.Reverse over bytes, and of chars.Digits. No condition but sizes.
-/
import Derived.Test.YtcoiagfeoonpbaaGreatMp1
import Derived.Test.YtcoiagfeoonpbaaGreatMp0
import Derived.RegionTactic
import Derived.ChangeAlike
import Derived.Maps.AppendAt
import Derived.RangeFuncBox
set_option maxHeartbeats 20000000
set_option maxRecDepth 100000
namespace Go.Proofs.YtcoiagfeoonpbaaGreat
section
open Go.RowKit
attribute [local go_sem] toList_beq empty_beq
def RevSt (g n:Nat) (l:List UInt8) (w:World) (k:Nat) (wr:World):Prop:=
  w.grownBy wr (some g)∧∀ j,j<n→wr.cell? ⟨g,j,none⟩=some (.int .u8 (if j<k∨n≤j+k then l.getD (n - 1 - j) 0 else l.getD j 0).toNat)
theorem rev_step {g n:Nat} {l:List UInt8} {w:World} {k m:Nat} {wr:World} (h:RevSt g n l w k wr) (o:k<m) (p:k+m+1=n):
    RevSt g n l w (k+1) ((wr.setCell ⟨g,k,none⟩ (.int .u8 (l.getD m 0).toNat)).setCell ⟨g,m,none⟩ (.int .u8 (l.getD k 0).toNat)).drew:=by
  obtain ⟨i,a⟩:=h;refine ⟨grownBy_trans i (grownBy_trans (grownBy_trans (grownBy_setCell _ _ _ _) (grownBy_setCell _ _ _ _)) (grownBy_drew _ _)),fun j b=>?_⟩;rw [World.cell?_drew]
  by_cases d:j=m
  · subst d
    rw [if_pos (Or.inr (by omega)),show n - 1 - j=k by omega];exact cell_set_same _ _ _ _ (by rw [cell_set_other _ _ _ _ _ (by omega),a j b];rfl)
  · rw [cell_set_other _ _ _ _ _ d]
    by_cases e:j=k
    · subst e
      rw [if_pos (Or.inl (by omega)),show n - 1 - j=m by omega];exact cell_set_same _ _ _ _ (by rw [a j b];rfl)
    · rw [cell_set_other _ _ _ _ _ e,a j b]
      by_cases f:j<k∨n≤j+k
      · rw [if_pos f,if_pos (by omega)]
      · rw [if_neg f,if_neg (by omega)]
theorem rev_end {g n:Nat} {l:List UInt8} {w:World} {k m:Nat} {wr:World} (h:RevSt g n l w k wr) (d: ¬k<m) (e:k+m+1=n):
    ∀ j,j<n→wr.cell? ⟨g,j,none⟩=some (.int .u8 (l.getD (n - 1 - j) 0).toNat):=by
  intro j b;rw [h.2 j b]
  by_cases a:j<k∨n≤j+k
  · rw [if_pos a]
  · rw [if_neg a,show n - 1 - j=j by omega]
theorem rev_any (g n cap:Nat) (l:List UInt8) (w:World) (C:0<n) (v:n≤cap) (B:cap≤9223372036854775807)
    (b:∀ j,j<n→w.cell? ⟨g,j,none⟩=some (.int .u8 (l.getD j 0).toNat)) (s:∀ j,w.frozen? ⟨g,j,none⟩=false):
    Calls Tryz.prog 109 #[.slice (some ⟨g,0,none⟩) n cap] w fun e f=>e=.returned (.tuple #[])∧w.grownBy f (some g)∧
      ∀ j,j<n→f.cell? ⟨g,j,none⟩=some (.int .u8 (l.getD (n - 1 - j) 0).toNat):=by
  have h:=zz b;clear b;go_enter Tryz.func109,Tryz.ntmps109
  go_wp2
  go_loopw [2,3] (fun i j wr=>∃ k m:Nat,k+m+1≤n∧n≤k+m+1∧i=.int .i64 k∧j=.int .i64 m∧(∀ j,wr.frozen? ⟨g,j,none⟩=false)∧Hid (RevSt g n l w k wr)) (fun i j _=>(intOf j - intOf i).toNat)
  case atStart=>exact ⟨0,n - 1,by omega,by omega,rfl,by go_num,s,grownBy_refl _ _,fun j u=>by rw [h.out j u,if_neg (by omega)]⟩
  case round=>
    obtain ⟨k,m,z,A,rfl,rfl,t,Hc⟩:=hrel
    by_cases d:k<m
    · have q:wr.cell? ⟨g,k,none⟩=some (.int .u8 (l.getD k 0).toNat):=by rw [Hc.out.2 k (by omega),if_neg (by omega)]
      have r:wr.cell? ⟨g,m,none⟩=some (.int .u8 (l.getD m 0).toNat):=by rw [Hc.out.2 m (by omega),if_neg (by omega)]
      have a:=zz (rev_step Hc.out d (by omega));generalize l.getD k 0=x at q a;generalize l.getD m 0=y at r a
      go_wp2
      go_region
      go_wp2
      go_roundw
      case rel=>exact ⟨k+1,m - 1,by omega,by omega,by go_num,by go_num,by simpa using t,a.out⟩
      case measure=>simp [intOf];omega
    · have o:=zz (rev_end Hc.out d (by omega))
      have p:=zz Hc.out.1
      go_wp2
      go_end0
      exact ⟨rfl,p.out,o.out⟩
theorem info_u8:(Tryz.prog.info? 5).map (fun i=>(i.zero,i.size,i.bytes))=some (some (.int .u8 0),1,1):=by kernel_rfl
def encB (l:List UInt8):List Value:=l.map fun c=>.int .u8 c.toNat
theorem toNat_digit (x:Nat):(UInt8.ofNat (48+x % 10)).toNat=48+x % 10:=by
  rw [UInt8.toNat_ofNat'];omega
theorem encB_snoc (l:List UInt8) (x:Nat):encB l++[.int .u8 (48+(x:Int) % 10)]=encB (l++[UInt8.ofNat (48+x % 10)]):=by
  rw [encB,encB,List.map_append]
  congr 1
  simp only [List.map_cons,List.map_nil,toNat_digit]
  congr 2
theorem encB_length (l:List UInt8):(encB l).length=l.length:=by simp [encB]
theorem owns_bytes {w:World} {base g n cap:Nat} {e:TypeId} {l:List UInt8} (h:w.ownsRow base e 1 (.slice (some ⟨g,0,none⟩) n cap) n (encB l)) (y:0<n):
    n=l.length∧n≤cap∧cap≤9223372036854775807∧base≤g∧(∀ j,j<n→w.cell? ⟨g,j,none⟩=some (.int .u8 (l.getD j 0).toNat))∧(∀ j,w.frozen? ⟨g,j,none⟩=false):=by
  have o:n=l.length:=by have :=h.1;rw [encB_length] at this;omega
  have f:=h.cells (g:=g) rfl
  rcases h.2 with ⟨_,t⟩ | ⟨s,q,r,p,d,i,a,b,u,v⟩
  · omega
  · cases p
    refine ⟨o,a,b,d,fun j x=>?_,fun j=>?_⟩
    · have m:j<l.length:=by omega
      have :=f j (.int .u8 (l.getD j 0).toNat) (by simp [encB,m])
      rw [show ((⟨g,0,none⟩:Addr).add j)=⟨g,j,none⟩ by unfold Addr.add;split <;> simp_all] at this
      exact this
    · simp only [World.frozen?,i];simp
theorem strOfNums_enc (l:List UInt8):strOfNums (l.map fun c=>(c.toNat:Int))=⟨l.toArray⟩:=by
  simp only [strOfNums,List.map_map]
  congr 2
  conv=>rhs;rw [←List.map_id l]
  apply List.map_congr_left
  intro c _
  simp
theorem conv_bytes (w:World) (b o n cap:Nat) (l:List UInt8) (d:l.length=n) (e:∀ j,j<n→w.cell? ⟨b,o+j,none⟩=some (.int .u8 (l.getD j 0).toNat)):
    (convert 93 9 (.slice (some ⟨b,o,none⟩) n cap)).run Tryz.prog w=.ok (.string ⟨l.toArray⟩) w:=by
  have h:=run_convert_bytes_arg (P:=Tryz.prog) w 93 5 Tryz.underlying93 Tryz.underlying5 b o n cap (l.map fun c=>(c.toNat:Int)) (by simpa using d)
    (fun i a=>by rw [e i a];simp [d ▸ a]) 9 Tryz.underlying9
  rw [strOfNums_enc] at h;exact h
theorem getD_rev (l:List UInt8) (n j:Nat) (b:n=l.length) (a:j<n):l.reverse.getD j 0=l.getD (n - 1 - j) 0:=by
  subst b;rw [List.getD_eq_getElem?_getD,List.getD_eq_getElem?_getD,List.getElem?_reverse a]
theorem neg64 (n:Int) (a: -9223372036854775808≤n) (b:n<0):IntKind.u64.wrap (-IntKind.u64.wrap n)= -n:=by
  rw [IntKind.wrap_u64,IntKind.wrap_u64];omega
theorem decR_round (N u:Nat) (l:List UInt8) (h:decR N=l++decR u) (a: ¬u<10):decR N=(l++[UInt8.ofNat (48+u % 10)])++decR (u / 10):=by
  rw [h,decR_great u a];simp
theorem decR_last (N u:Nat) (l:List UInt8) (h:decR N=l++decR u) (a:u<10):decR N=l++[UInt8.ofNat (48+u % 10)]:=by
  rw [h,decR_small u a,Nat.mod_eq_of_lt a]
theorem decR_size (N u:Nat) (l:List UInt8) (h:decR N=l++decR u) (e:(N:Int)≤18446744073709551615):l.length≤19:=by
  have b:=decR_len64 N (by omega);have a:=congrArg List.length h;have d:=decR_pos u
  simp at a
  omega
theorem Digits_any (n:Int) (w:World) (B: -9223372036854775808≤n) (S:n≤9223372036854775807):
    Calls Tryz.prog 77 #[.int .i64 n] w fun e w'=>e=.returned (.string ⟨(digs n).toArray⟩)∧Below w.heap.size w w':=by
  obtain ⟨M,G,J,K,L⟩:=info_parts info_u8
  rcases Int.lt_or_le n 0 with i | i
  case' inl=>
    obtain ⟨N,t⟩:∃ N:Nat, -n=(N:Int):=⟨(-n).toNat,by omega⟩
    have A:Hid (digs n=[45]++dec N):=by rw [Hid,digs_neg n N i t.symm];rfl
    have s:Hid ((N:Int)≤18446744073709551615):=by show _≤_;omega
    have z:=zz (show IntKind.u64.wrap (-IntKind.u64.wrap n)=(N:Int) by rw [neg64 n B i,t]);clear t;go_enter Tryz.func77,Tryz.ntmps77
    go_wp2
    rw [z.out];clear z
  case' inr=>
    obtain ⟨N,rfl⟩:=Int.eq_ofNat_of_zero_le i
    have A:Hid (digs N=[]++dec N):=by rw [Hid,digs_pos N (by omega)];rfl
    have s:Hid ((N:Int)≤18446744073709551615):=by show _≤_;omega
    go_enter Tryz.func77,Tryz.ntmps77
    go_wp2
  all_goals
    clear B S i
    go_loopw [4,5] (fun u b wr=>∃ (x:Nat) (l:List UInt8),(x:Int)≤18446744073709551615∧u=.int .u64 x∧l.length≤19∧Hid (decR N=l++decR x)∧Hid (Below w.heap.size w wr)∧wr.ownsRow w.heap.size 5 1 b l.length (encB l)) (fun u _ _=>(intOf u).toNat)
    case atStart=>exact ⟨N,[],s.out,rfl,by decide,rfl,Below.refl _ _,World.ownsRow_nil _ _ _ _⟩
    case round=>
      obtain ⟨x,l,Y,rfl,hl,y,o,m⟩:=hrel
      by_cases C:x<10
      · have p:=zz (decR_last N x l y.out C)
        have v:=o.out.size;clear Y
        go_wp2_with (at_builtin;refine wpList_append_own _ rfl _ _ 93 rfl w.heap.size 5 M (.int .u8 0) 1 1 Tryz.underlying93 G J K L rfl (by decide) _ _ _ rfl (m.alloc _) ⟨wr.heap.size,0,none⟩ 1 1 [.int .u8 (48+(x:Int) % 10)] rfl rfl (cell_one_new _ _ _) (by simp [Value.oneCell']) (by unfold maxLen;omega) (by omega) (by simp;omega) ?_;intro Z O a d _;obtain ⟨g,cap,rfl⟩:=ownsRow_succ a)
        have Hb1:Hid (Below w.heap.size w O):=(o.out.alloc v _).grown d (by simp;omega) (fun k f=>(m.lt k f).1);rw [encB_snoc] at a;obtain ⟨I,T,U,X,D,W⟩:=owns_bytes a (by omega);have Hl1:=zz I;have Q:=zz D;clear I D a d m;refine (rev_any g (l.length+1) cap _ _ (by omega) T U Q.out W).mono ?_;rintro e P ⟨rfl,F,E⟩
        have Hb2:Hid (Below w.heap.size w P):=Hb1.out.grown F (by have :=Hb1.out.size;exact this) (fun k f=>by cases f;exact X)
        have V:=conv_bytes P g 0 (l.length+1) cap (l++[UInt8.ofNat (48+x % 10)]).reverse (by simp) (fun j H=>by rw [Nat.zero_add,E j H,getD_rev _ _ j Hl1.out H]);obtain ⟨r,q⟩:∃ r,(l++[UInt8.ofNat (48+x % 10)]).reverse=r:=⟨_,rfl⟩
        have a0:r.length≤20:=by rw [←q];simp;omega
        rw [q] at V
        have Hr:Hid (dec N=r):=by rw [Hid,dec,p.out,q]
        clear q F E
        go_wp2
        go_ret;refine ⟨ret_str ?_,Hb2.out⟩;rw [A.out,Hr.out];exact ByteArray.mk_append_mk _ r
      · have p:=zz (decR_round N x l y.out C)
        have R:=zz (decR_size N (x / 10) _ p.out s.out);have v:=o.out.size
        go_wp2_with (at_builtin;refine wpList_append_own _ rfl _ _ 93 rfl w.heap.size 5 M (.int .u8 0) 1 1 Tryz.underlying93 G J K L rfl (by decide) _ _ _ rfl (m.alloc _) ⟨wr.heap.size,0,none⟩ 1 1 [.int .u8 (48+(x:Int) % 10)] rfl rfl (cell_one_new _ _ _) (by simp [Value.oneCell']) (by unfold maxLen;omega) (by omega) (by simp;omega) ?_;intro Z O a d _;have Hown:=zz a;have Hgrow:=zz d;clear a d)
        go_roundw
        case rel=>exact ⟨x / 10,l++[UInt8.ofNat (48+x % 10)],by omega,by go_num,R.out,p.out,(o.out.alloc v _).grown Hgrow.out (by simp;omega) (fun k f=>(m.lt k f).1),by have h:=Hown.out;rw [encB_snoc] at h;simpa using h⟩
        case measure=>simp [intOf];omega
end
section
open Go.RowKit
attribute [local go_sem] toList_beq empty_beq
theorem cls_dig (c:Int):(cls c != 3)= !(decide (48≤c) && decide (c≤57)):=by
  have :cls c=3 ↔ 48≤c∧c≤57:=by
    unfold cls;repeat' split
    all_goals omega
  rw [Bool.eq_iff_iff];simp [this];omega
theorem isDig_int (c:UInt8):isDig c=(decide (48≤(c.toNat:Int)) && decide ((c.toNat:Int)≤57)):=by
  rw [isDig];congr 1 <;> rw [Bool.eq_iff_iff,decide_eq_true_eq,decide_eq_true_eq] <;> omega
theorem val_take_snoc (s:ByteArray) (k:Nat) (h:k<s.size):val (s.data.toList.take (k+1))=10 * val (s.data.toList.take k)+(s[k].toNat - 48):=by
  rw [take_snoc s k h,val_snoc]
theorem val_take (s:ByteArray) (k:Nat):val (s.data.toList.take k)≤val s.data.toList:=by
  have :=val_append (s.data.toList.take k) (s.data.toList.drop k)
  rwa [List.take_append_drop] at this
theorem num_bad (s:ByteArray) (k:Nat) (h:k<s.size) (a: ¬(48≤(s[k].toNat:Int)∧(s[k].toNat:Int)≤57)):okN s.data.toList=false:=
  okN_bad _ (all_of_bad s isDig k h (by rw [isDig_int,Bool.and_eq_false_iff,decide_eq_false_iff_not,decide_eq_false_iff_not];omega))
theorem num_on (s:ByteArray) (k:Nat) (h:k<s.size) (d:(s.data.toList.take k).all isDig=true) (a:48≤(s[k].toNat:Int)) (b:(s[k].toNat:Int)≤57):(s.data.toList.take (k+1)).all isDig=true:=by
  rw [all_take_snoc s isDig k h,d,isDig_int,decide_eq_true a,decide_eq_true b];rfl
theorem ret_num {a b:Int} {c d:Bool} (h:a=b) (e:c=d):Ending.returned (.tuple #[.int .i64 a,.bool c])=.returned (.tuple #[.int .i64 b,.bool d]):=by rw [h,e]
theorem number_any (s:ByteArray) (w:World) (z:s.size≤maxLen):
    Calls Tryz.prog 90 #[.string s] w fun e f=>e=.returned (.tuple #[.int .i64 (numN s.data.toList),.bool (okN s.data.toList)])∧Below w.heap.size w f:=by
  unfold maxLen at z;go_enter Tryz.func90,Tryz.ntmps90
  go_wp2
  go_loop [4,5,8] (fun n _ i=>∃ k v:Nat,k≤s.size∧i=.int .i64 k∧n=.int .i64 v∧(v:Int)≤21474836479∧Hid (val (s.data.toList.take k)=v)∧Hid ((s.data.toList.take k).all isDig=true)) (fun _ _ i=>s.size - (intOf i).toNat)
  case atStart=>exact ⟨0,0,Nat.zero_le _,rfl,rfl,by decide,rfl,rfl⟩
  case round=>
    obtain ⟨k,v,A,rfl,rfl,B,m,p⟩:=hrel
    by_cases h:k<s.size
    · by_cases g:48≤(s[k].toNat:Int)∧(s[k].toNat:Int)≤57
      · have r:(cls s[k].toNat != 3)=false:=by rw [cls_dig];simp only [g.1,g.2,decide_true,Bool.and_self,Bool.not_true]
        obtain ⟨u,x⟩:=g
        by_cases t:(v:Int)≤2147483647
        · have b:Hid (val (s.data.toList.take (k+1))=10 * v+(s[k].toNat - 48)):=by rw [Hid,val_take_snoc s k h,m.out]
          have j:=zz (num_on s k h p.out u x)
          go_wp2_with (go_at_call 85;refine (class_any _ _).mono ?_;rintro e f ⟨rfl,rfl⟩)
          go_round
          case rel=>exact ⟨k+1,10 * v+(s[k].toNat - 48),by omega,by go_num,by congr 1;omega,by omega,b.out,j.out⟩
          case measure=>simp [intOf];omega
        · have a:Hid (okN s.data.toList=false):=okN_great _ (by have :=val_take s k;rw [m.out] at this;omega)
          go_wp2_with (go_at_call 85;refine (class_any _ _).mono ?_;rintro e f ⟨rfl,rfl⟩)
          go_ret2
          exact ⟨ret_num (by rw [numN_no _ a.out]) a.out.symm,Below.refl _ _⟩
      · have a:=zz (num_bad s k h g)
        have r:(cls s[k].toNat != 3)=true:=by
          rw [cls_dig];simp only [Bool.not_eq_true',Bool.and_eq_false_iff,decide_eq_false_iff_not];omega
        clear g
        go_wp2_with (go_at_call 85;refine (class_any _ _).mono ?_;rintro e f ⟨rfl,rfl⟩)
        go_ret2
        exact ⟨ret_num (by rw [numN_no _ a.out]) a.out.symm,Below.refl _ _⟩
    · have b:Hid (val s.data.toList=v):=by have :=m.out;rwa [take_all s k h] at this
      have j:Hid (s.data.toList.all isDig=true):=by have :=p.out;rwa [take_all s k h] at this
      by_cases t:(v:Int)≤2147483647
      · by_cases d:dec v=s.data.toList
        · have y:(digs v==s.toList)=true:=by rw [beq_iff_eq,Lib.toList_data,digs_pos _ (by omega)];simpa using d
          have a:Hid (okN s.data.toList=true):=okN_ok _ j.out (by rw [b.out];omega) (by rw [b.out];exact d)
          have q:Hid (numN s.data.toList=v):=by rw [Hid,numN_ok _ a.out,b.out]
          clear d
          go_wp2_with (go_at_call 77;refine (Digits_any _ _ (by omega) (by omega)).mono ?_;rintro e f ⟨rfl,o⟩)
          go_ret2
          exact ⟨ret_num q.out.symm a.out.symm,o⟩
        · have y:(digs v==s.toList)=false:=by
            rw [beq_eq_false_iff_ne,Lib.toList_data,digs_pos _ (by omega)];simpa using d
          have a:Hid (okN s.data.toList=false):=okN_other _ (by rw [b.out];exact d);clear d
          go_wp2_with (go_at_call 77;refine (Digits_any _ _ (by omega) (by omega)).mono ?_;rintro e f ⟨rfl,o⟩)
          go_ret2
          exact ⟨ret_num (by rw [numN_no _ a.out]) a.out.symm,o⟩
      · have a:Hid (okN s.data.toList=false):=okN_great _ (by rw [b.out];omega)
        go_wp2
        go_ret2
        exact ⟨ret_num (by rw [numN_no _ a.out]) a.out.symm,Below.refl _ _⟩
theorem pow_mono_ten (k:Nat) (h:k+1≤10):10 ^ (k+1)≤10000000000:=Nat.le_trans (Nat.pow_le_pow_right (by decide) h) (by decide)
theorem data_nil (s:ByteArray) (h: ¬0<s.size):s.data.toList=[]:=List.eq_nil_of_length_eq_zero (by rw [length_data];omega)
theorem data_ne_nil (s:ByteArray) (h:0<s.size):s.data.toList≠[]:=fun e=>by have :=length_data s;rw [e] at this;simp at this;omega
theorem head_data (s:ByteArray) (h:0<s.size):s.data.toList.head (data_ne_nil s h)=s[0]:=by
  rw [List.head_eq_getElem];rfl
theorem byte_eq (c:UInt8):((c.toNat:Int)==48)=(c==48):=by
  rw [Bool.eq_iff_iff,beq_iff_eq,beq_iff_eq, ←UInt8.toNat_inj];have :(48:UInt8).toNat=48:=rfl
  omega
theorem rnumber_any (s:ByteArray) (w:World) (F:s.size≤maxLen):
    Calls Tryz.prog 101 #[.string s] w fun e p=>e=.returned (.tuple #[.int .i64 (numN s.data.toList),.bool (okN s.data.toList)])∧Below w.heap.size w p:=by
  unfold maxLen at F
  by_cases f:0<s.size
  · have A:((s.size:Int)==0)=false:=by rw [beq_eq_false_iff_ne];omega
    by_cases B:10<s.size
    · have a:Hid (okN s.data.toList=false):=okN_long _ (by rw [length_data];exact B)
      go_enter Tryz.func101,Tryz.ntmps101
      go_wp2
      go_ret2
      exact ⟨ret_num (by rw [numN_no _ a.out]) a.out.symm,Below.refl _ _⟩
    · by_cases b:1<s.size∧((s[0].toNat:Int)==48)=true
      · obtain ⟨H,u⟩:=b
        have a:Hid (okN s.data.toList=false):=okN_nought _ (data_ne_nil s f) (by rw [length_data];exact H) (by rw [head_data s f];rw [byte_eq,beq_iff_eq] at u;exact u);go_enter Tryz.func101,Tryz.ntmps101
        go_wp2
        go_ret2
        exact ⟨ret_num (by rw [numN_no _ a.out]) a.out.symm,Below.refl _ _⟩
      · have z:Hid (1<s.size→s[0]≠48):=fun g e=>b ⟨g,by rw [byte_eq,e];rfl⟩
        have G: ¬1<s.size∨1<s.size∧((s[0].toNat:Int)==48)=false:=by
          by_cases g:1<s.size
          · right;rw [←Bool.not_eq_true];exact ⟨g,fun h=>b ⟨g,h⟩⟩
          · exact .inl g
        clear b
        rcases G with b | ⟨b,M⟩
        all_goals
          go_enter Tryz.func101,Tryz.ntmps101
          go_wp2
          go_loop [4,5] (fun n i=>∃ k v:Nat,k≤s.size∧i=.int .i64 k∧n=.int .i64 v∧(v:Int)≤9999999999∧Hid (v<10 ^ k)∧Hid (val (s.data.toList.take k)=v)∧Hid ((s.data.toList.take k).all isDig=true)) (fun _ i=>s.size - (intOf i).toNat)
          case atStart=>exact ⟨0,0,Nat.zero_le _,rfl,rfl,by decide,Nat.zero_lt_one,rfl,rfl⟩
          case round=>
            obtain ⟨k,v,K,rfl,rfl,L,y,t,q⟩:=hrel
            by_cases m:k<s.size
            · by_cases j:48≤(s[k].toNat:Int)∧(s[k].toNat:Int)≤57
              · have C:(cls s[k].toNat != 3)=false:=by rw [cls_dig];simp only [j.1,j.2,decide_true,Bool.and_self,Bool.not_true]
                obtain ⟨D,E⟩:=j
                have d:Hid (val (s.data.toList.take (k+1))=10 * v+(s[k].toNat - 48)):=by rw [Hid,val_take_snoc s k m,t.out]
                have o:=zz (num_on s k m q.out D E)
                have r:Hid (10 * v+(s[k].toNat - 48)<10 ^ (k+1)):=by have :=y.out;show _<_;rw [Nat.pow_succ];omega
                have J:10 * (v:Int)+(s[k].toNat:Int) - 48≤9999999999:=by have :=r.out;have :=pow_mono_ten k (by omega);omega
                go_wp2_with (go_at_call 98;refine (rclass_any _ _).mono ?_;rintro e p ⟨rfl,rfl⟩)
                go_round
                case rel=>exact ⟨k+1,10 * v+(s[k].toNat - 48),by omega,by go_num,by congr 1;omega,by omega,r.out,d.out,o.out⟩
                case measure=>simp [intOf];omega
              · have a:=zz (num_bad s k m j)
                have C:(cls s[k].toNat != 3)=true:=by
                  rw [cls_dig];simp only [Bool.not_eq_true',Bool.and_eq_false_iff,decide_eq_false_iff_not];omega
                clear j
                go_wp2_with (go_at_call 98;refine (rclass_any _ _).mono ?_;rintro e p ⟨rfl,rfl⟩)
                go_ret2
                exact ⟨ret_num (by rw [numN_no _ a.out]) a.out.symm,Below.refl _ _⟩
            · have d:Hid (val s.data.toList=v):=by have :=t.out;rwa [take_all s k m] at this
              have o:Hid (s.data.toList.all isDig=true):=by have :=q.out;rwa [take_all s k m] at this
              by_cases I:(v:Int)≤2147483647
              · have a:Hid (okN s.data.toList=true):=okN_ok _ o.out (by rw [d.out];omega)
                  (dec_val _ s.data.toList rfl o.out (data_ne_nil s f) (fun h=>by rw [head_data s f];rw [length_data] at h;exact z.out h)).1
                have x:Hid (numN s.data.toList=v):=by rw [Hid,numN_ok _ a.out,d.out]
                go_wp2
                go_ret2
                exact ⟨ret_num x.out.symm a.out.symm,Below.refl _ _⟩
              · have a:Hid (okN s.data.toList=false):=okN_great _ (by rw [d.out];omega)
                go_wp2
                go_ret2
                exact ⟨ret_num (by rw [numN_no _ a.out]) a.out.symm,Below.refl _ _⟩
  · have A:((s.size:Int)==0)=true:=by rw [beq_iff_eq];omega
    have a:Hid (okN s.data.toList=false):=by rw [Hid,data_nil s f];exact okN_nil
    go_enter Tryz.func101,Tryz.ntmps101
    go_wp2
    go_ret2
    exact ⟨ret_num (by rw [numN_no _ a.out]) a.out.symm,Below.refl _ _⟩
end
section
structure Tok where
  k:Int
  s:ByteArray
  n:Int
  l:Int
  c:Int
def skipG:Bool→List UInt8→Nat→Nat→List UInt8 × Nat × Nat
  | _,[],l,c=>([],l,c)
  | true,x::r,l,c=>if x=10 then skipG false r (l+1) 1 else skipG true r l (c+1)
  | false, x :: r, l, c =>
    if x=10 then skipG false r (l+1) 1 else if x=32 then skipG false r l (c+1)
    else if x=45∧r.head?=some 45 then skipG true r l (c+1) else (x::r,l,c)
def partB (c:UInt8):Bool:=part c.toNat
def pre? (y r:List UInt8):Bool:=y.isPrefixOf r
def str (l:List UInt8):ByteArray:=⟨l.toArray⟩
theorem str_data (l:List UInt8):(str l).data.toList=l:=rfl
theorem str_size (l:List UInt8):(str l).size=l.length:=rfl
def tokL (r:List UInt8):Option (Int × List UInt8 × Int):=
  match r with
  | []=>none
  | x :: _ =>
    if cls x.toNat=1∨cls x.toNat=2 then
      let w:=r.takeWhile partB
      if isKey (str w) then some (5,w,0) else if isWord (str w) 1 then some (2,w,0) else if isWord (str w) 2 then some (3,w,0) else none
    else if cls x.toNat=3 then
      let w:=r.takeWhile isDig
      if okN w then some (4,w,numN w) else none
    else (symbols.find? fun y=>pre? y.data.toList r).map fun y=>(6,y.data.toList,0)
def addT (p:List Tok) (x:Option (Nat × Nat) × List Tok):Option (Nat × Nat) × List Tok:=(x.1,p++x.2)
theorem addT_nil (x:Option (Nat × Nat) × List Tok):addT [] x=x:=rfl
theorem addT_add (p q:List Tok) (x:Option (Nat × Nat) × List Tok):addT p (addT q x)=addT (p++q) x:=by simp [addT]
theorem skipG_le (com:Bool) (r:List UInt8) (l c:Nat):(skipG com r l c).1.length≤r.length:=by
  induction r generalizing com l c with
  | nil=>cases com <;> exact Nat.le_refl _
  | cons x r ih =>
    cases com <;> simp only [skipG] <;> (repeat' split) <;> first | exact Nat.le_succ_of_le (ih ..) | exact Nat.le_refl _
theorem takeWhile_pos {p:UInt8→Bool} {x:UInt8} {r:List UInt8} (h:p x=true):0<((x::r).takeWhile p).length:=by rw [List.takeWhile_cons_of_pos h];simp
theorem cls_part {c:Int} (h:cls c=1∨cls c=2∨cls c=3):part c=true:=by
  simp only [part,Bool.or_eq_true,beq_iff_eq,Bool.and_eq_true,decide_eq_true_eq];omega
theorem cls3_dig {x:UInt8} (h:cls x.toNat=3):isDig x=true:=by
  unfold cls at h;simp only [isDig,Bool.and_eq_true,decide_eq_true_eq]
  repeat' split at h
  all_goals omega
theorem tokL_pre {r:List UInt8} {k n:Int} {t:List UInt8} (h:tokL r=some (k,t,n)):0<t.length∧t <+: r∧1<k:=by
  unfold tokL at h
  split at h
  · cases h
  · rename_i x r
    split at h
    · rename_i d
      have a:=takeWhile_pos (p:=partB) (x:=x) (r:=r) (cls_part (by omega));have b:=List.takeWhile_prefix partB (l:=x::r);simp only at h
      repeat' split at h
      all_goals first | (cases h;done) | (injection h with h;injection h with h1 h2;injection h2 with h2 h3;subst h1;subst h2;exact ⟨a,b,by decide⟩)
    · split at h
      · rename_i d
        have a:=takeWhile_pos (p:=isDig) (x:=x) (r:=r) (cls3_dig d);have b:=List.takeWhile_prefix isDig (l:=x::r);simp only at h
        split at h
        · injection h with h;injection h with h1 h2;injection h2 with h2 h3;subst h1;subst h2;exact ⟨a,b,by decide⟩
        · cases h
      · rw [Option.map_eq_some_iff] at h
        obtain ⟨y,f,g⟩:=h
        injection g with h1 h2;injection h2 with h2 h3;subst h1;subst h2
        have e:=List.mem_of_find?_eq_some f;have i:=List.find?_some f;refine ⟨?_,List.isPrefixOf_iff_prefix.1 i,by decide⟩;simp only [symbols,List.mem_cons,List.not_mem_nil,or_false] at e
        rcases e with rfl | rfl | rfl | rfl | rfl | rfl | rfl | rfl | rfl | rfl | rfl <;> decide
def scanS (r:List UInt8) (l c:Nat):Option (Nat × Nat) × List Tok:=
  match r with
  | []=>(none,[⟨0,str [],0,l,c⟩])
  | x :: r' =>
    match h:tokL (x::r') with
    | none=>(some (l,c),[])
    | some (k, t, n) =>
      let s:=skipG false ((x::r').drop t.length) l (c+t.length)
      addT ((if c=1 then [⟨1,str [],0,l,c⟩] else [])++[⟨k,str t,n,l,c⟩]) (scanS s.1 s.2.1 s.2.2)
termination_by r.length
decreasing_by
  have h1:=(tokL_pre h).1;have h2:=skipG_le false ((x::r').drop t.length) l (c+t.length);rw [List.length_drop] at h2
  show (skipG false ((x::r').drop t.length) l (c+t.length)).1.length<(x::r').length
  have h3:(x::r').length=r'.length+1:=rfl
  omega
def scanB (com:Bool) (r:List UInt8) (l c:Nat):Option (Nat × Nat) × List Tok:=scanS (skipG com r l c).1 (skipG com r l c).2.1 (skipG com r l c).2.2
theorem scanS_nil (l c:Nat):scanS [] l c=(none,[⟨0,str [],0,l,c⟩]):=by rw [scanS]
theorem scanS_bad {r:List UInt8} (l c:Nat) (a:r≠[]) (h:tokL r=none):scanS r l c=(some (l,c),[]):=by
  cases r with
  | nil=>exact absurd rfl a
  | cons x r=>rw [scanS];split <;> simp_all
theorem scanS_tok {r:List UInt8} (l c:Nat) {k n:Int} {t:List UInt8} (h:tokL r=some (k,t,n)):
    scanS r l c=addT ((if c=1 then [⟨1,str [],0,l,c⟩] else [])++[⟨k,str t,n,l,c⟩]) (scanB false (r.drop t.length) l (c+t.length)):=by
  cases r with
  | nil=>cases h
  | cons x r =>
    rw [scanS]
    split
    · simp_all
    · rename_i k' t' n' h'
      rw [h] at h'
      injection h' with h';injection h' with h1 h2;injection h2 with h2 h3
      subst h1;subst h2;subst h3
      rfl
theorem scanB_at {r:List UInt8} {l c:Nat} (h:skipG false r l c=(r,l,c)):scanB false r l c=scanS r l c:=by rw [scanB,h]
theorem scanB_nl (a:Bool) (r:List UInt8) (l c:Nat):scanB a (10::r) l c=scanB false r (l+1) 1:=by cases a <;> simp [scanB,skipG]
theorem scanB_sp (r:List UInt8) (l c:Nat):scanB false (32::r) l c=scanB false r l (c+1):=by simp [scanB,skipG]
theorem scanB_rem (r:List UInt8) (l c:Nat):scanB false (45::45::r) l c=scanB true (45::45::r) l c:=by simp [scanB,skipG]
theorem scanB_on (x:UInt8) (r:List UInt8) (l c:Nat) (h:x≠10):scanB true (x::r) l c=scanB true r l (c+1):=by simp [scanB,skipG,h]
theorem scanB_out (l c:Nat):scanB true [] l c=scanB false [] l c:=by simp [scanB,skipG]
theorem skipG_here {x:UInt8} {r:List UInt8} (l c:Nat) (a:x≠10) (b:x≠32) (d: ¬(x=45∧r.head?=some 45)):skipG false (x::r) l c=(x::r,l,c):=by simp only [skipG,if_neg a,if_neg b,if_neg d]
def lexes (s:ByteArray):Int × Int × Int × List Tok:=
  if 4096<s.size then (11,0,0,[])
  else match scanB false s.data.toList 1 1 with
    | (some (l,c),_)=>(1,l,c,[])
    | (none,ts)=>(0,0,0,ts)
theorem lexes_long (s:ByteArray) (h:4096<s.size):lexes s=(11,0,0,[]):=by rw [lexes,if_pos h]
theorem lexes_bad (s:ByteArray) (h: ¬4096<s.size) {l c:Nat} {ts:List Tok} (a:scanB false s.data.toList 1 1=(some (l,c),ts)):lexes s=(1,(l:Int),(c:Int),[]):=by rw [lexes,if_neg h,a]
theorem lexes_ok (s:ByteArray) (h: ¬4096<s.size) {ts:List Tok} (a:scanB false s.data.toList 1 1=(none,ts)):lexes s=(0,0,0,ts):=by rw [lexes,if_neg h,a]
end
section
def endT (l c:Nat):Tok:=⟨0,str [],0,l,c⟩
theorem scanB_len:∀ (n:Nat) (com:Bool) (A:List UInt8) (l c:Nat),A.length≤n→(scanB com A l c).2.length≤2 * A.length+1:=by
  intro n
  induction n with
  | zero =>
    intro com A l c hA;have :A=[]:=List.eq_nil_of_length_eq_zero (by omega);subst this
    have e:scanB com [] l c=(none,[endT l c]):=by cases com <;> (show scanS [] l c=_;exact scanS_nil l c)
    rw [e];simp
  | succ n ih =>
    intro com A l c hA;have hle:=skipG_le com A l c;rw [scanB];generalize skipG com A l c=R at hle ⊢;obtain ⟨r,l1,c1⟩:=R;simp only at hle ⊢
    cases r with
    | nil=>rw [scanS_nil];simp
    | cons x r =>
      cases hk:tokL (x::r) with
      | none=>rw [scanS_bad _ _ (by simp) hk];simp
      | some v =>
        obtain ⟨k,t,m⟩:=v;have hp:=tokL_pre hk;rw [scanS_tok _ _ hk];have h1:=ih false ((x::r).drop t.length) l1 (c1+t.length) (by rw [List.length_drop];omega);rw [List.length_drop] at h1;simp only [addT,List.length_append,List.length_cons,List.length_nil]
        have h2:(if c1=1 then [(⟨1,str [],0,l1,c1⟩:Tok)] else []).length≤1:=by split <;> simp
        have h3:=hp.2.1.length_le;simp only [List.length_cons] at h1 hle h3;have :=hp.1
        omega
theorem lexes_len (s:ByteArray):(lexes s).2.2.2.length≤2 * s.size+1:=by
  have h:=scanB_len s.data.toList.length false s.data.toList 1 1 (Nat.le_refl _);rw [length_data] at h;unfold lexes
  split
  · simp
  · rcases a:scanB false s.data.toList 1 1 with ⟨_ | ⟨l,c⟩,ts⟩
    · rw [a] at h;exact h
    · simp
end
end Go.Proofs.YtcoiagfeoonpbaaGreat
