/-
  Numbers as texts: plain lemmas. No condition but sizes.
-/
import Derived.Test.YtcoiagfeoonpbaaGreatMp0
set_option maxHeartbeats 20000000
set_option maxRecDepth 100000
namespace Go.Proofs.YtcoiagfeoonpbaaGreat
section
open Go.RowKit
attribute [local go_sem] toList_beq empty_beq
def decR (n:Nat):List UInt8:=UInt8.ofNat (48+n % 10)::(if n<10 then [] else decR (n / 10))
termination_by n
def dec (n:Nat):List UInt8:=(decR n).reverse
theorem decR_small (n:Nat) (h:n<10):decR n=[UInt8.ofNat (48+n)]:=by
  rw [decR,if_pos h,Nat.mod_eq_of_lt h]
theorem decR_great (n:Nat) (h: ¬n<10):decR n=UInt8.ofNat (48+n % 10)::decR (n / 10):=by
  rw [decR,if_neg h]
theorem decR_len (k:Nat):∀ n,n<10 ^ (k+1)→(decR n).length≤k+1:=by
  induction k with
  | zero=>intro n h;rw [decR_small n (by simpa using h)];simp
  | succ k ih =>
    intro n h
    by_cases h1:n<10
    · rw [decR_small n h1];simp
    · rw [decR_great n h1,List.length_cons]
      have :=ih (n / 10) (by rw [Nat.div_lt_iff_lt_mul (by decide)];rw [Nat.pow_succ] at h;exact h)
      omega
theorem decR_len64 (n:Nat) (h:n≤18446744073709551615):(decR n).length≤20:=decR_len 19 n (by omega)
theorem decR_pos (n:Nat):1≤(decR n).length:=by rw [decR];simp
theorem conv_one (w:World) (x:Int):(convert 93 9 (.slice (some ⟨w.heap.size,0,none⟩) 1 1)).run Tryz.prog (w.alloc (.cells #[.int .u8 x] 5))=
    .ok (.string ⟨[UInt8.ofNat x.toNat].toArray⟩) (w.alloc (.cells #[.int .u8 x] 5)):=by
  have h:=run_convert_bytes_arg (P:=Tryz.prog) (w.alloc (.cells #[.int .u8 x] 5)) 93 5 Tryz.underlying93 Tryz.underlying5 w.heap.size 0 1 1 [x] rfl
    (fun i hi => by obtain rfl : i = 0 := by omega
                    exact (rd_new w #[.int .u8 x] 5 1 1 rfl (by decide)).2.2.2.resolve_left (by decide) |> fun ⟨b,o,hb,_,hc⟩=>by cases hb;exact hc 0 (by simp)) 9 Tryz.underlying9
  exact h
attribute [local go_sem] conv_one
def digs (n:Int):List UInt8:=if n<0 then 45::dec n.natAbs else dec n.toNat
theorem digs_neg (n m:Int) (h:n<0) (a:m= -n):digs n=45::dec m.toNat:=by
  rw [digs,if_pos h,show n.natAbs=m.toNat by omega]
theorem digs_pos (n:Int) (h: ¬n<0):digs n=dec n.toNat:=by rw [digs,if_neg h]
end
section
open Go.RowKit
attribute [local go_sem] toList_beq empty_beq
def cls (b:Int):Int:=
  if 97≤b∧b≤122 then 1 else if 65≤b∧b≤90 then 2 else if 48≤b∧b≤57 then 3 else if b=32 then 4 else if b=10 then 5
  else if b=61∨b=124∨b=63∨b=60∨b=43∨b=45∨b=42∨b=40∨b=41∨b=95 then 6 else 0
def hasB (l:List UInt8) (b:Int):Bool:=l.any fun c=>(c.toNat:Int)==b
theorem hasB_snoc (l:List UInt8) (c:UInt8) (b:Int):hasB (l++[c]) b=(hasB l b || ((c.toNat:Int)==b)):=by simp [hasB]
theorem hasB_of_mem (s:ByteArray) (b:Int) (k:Nat) (h:k<s.size) (e:((s[k].toNat:Int)==b)=true):hasB s.data.toList b=true:=by
  simp only [hasB,List.any_eq_true];exact ⟨_,mem_byte s k h,e⟩
theorem has_any (s:ByteArray) (b:Int) (w:World) (h:s.size≤maxLen):
    Calls Tryz.prog 137 #[.string s,.int .u8 b] w fun e m=>e=.returned (.bool (hasB s.data.toList b))∧w=m:=by
  unfold maxLen at h;go_enter Tryz.func137,Tryz.ntmps137
  go_wp2
  go_loop [5] (fun i=>∃ k:Nat,k≤s.size∧i=.int .i64 k∧hasB (s.data.toList.take k) b=false) (fun i=>s.size - (intOf i).toNat)
  case atStart=>exact ⟨0,Nat.zero_le _,rfl,rfl⟩
  case round=>
    obtain ⟨k,o,rfl,d⟩:=hrel;have Hn:=zz d;clear d
    by_cases a:k<s.size
    · have g:Hid (hasB (s.data.toList.take (k+1)) b=(hasB (s.data.toList.take k) b || ((s[k].toNat:Int)==b))):=by rw [take_snoc s k a];exact hasB_snoc _ _ _
      have f:=zz (hasB_of_mem s b k a)
      go_wp2
      · go_ret
        exact ⟨ret_bool (f.out ‹_›).symm,rfl⟩
      · go_round
        case rel=>exact ⟨k+1,by omega,by go_num,by rw [g.out,Hn.out];rename_i j;rw [j];rfl⟩
        case measure=>simp [intOf];omega
    · go_wp2
      go_ret
      exact ⟨ret_bool (by have :=Hn.out;rw [take_all s k a] at this;exact this.symm),rfl⟩
theorem class_any (b:Int) (w:World):
    Calls Tryz.prog 85 #[.int .u8 b] w fun e a=>e=.returned (.int .i64 (cls b))∧w=a:=by
  go_enter Tryz.func85,Tryz.ntmps85
  go_wp2
  all_goals (try go_ret)
  all_goals (refine ⟨ret_int ?_,rfl⟩;(try simp only [beq_iff_eq,beq_eq_false_iff_ne,ne_eq] at *);unfold cls;(repeat (first | rw [if_pos (by omega)] | rw [if_neg (by omega)])))
theorem signs (b:Int):hasB [61,124,63,60,43,45,42,40,41,95] b=decide (b=61∨b=124∨b=63∨b=60∨b=43∨b=45∨b=42∨b=40∨b=41∨b=95):=by
  rw [Bool.eq_iff_iff];simp [hasB];omega
theorem rclass_any (b:Int) (w:World):
    Calls Tryz.prog 98 #[.int .u8 b] w fun e a=>e=.returned (.int .i64 (cls b))∧w=a:=by
  go_enter Tryz.func98,Tryz.ntmps98
  go_wp2_with (go_at_call 137;refine (has_any _ _ _ (by decide)).mono ?_;rintro e a ⟨rfl,rfl⟩;simp only [signs])
  all_goals (try go_ret)
  all_goals (refine ⟨ret_int ?_,rfl⟩;(try simp only [beq_iff_eq,beq_eq_false_iff_ne,ne_eq] at *);unfold cls;(repeat (first | rw [if_pos (by omega)] | rw [if_neg (by omega)])))
def strs (l:List ByteArray):List Value:=l.map .string
theorem Rd.strAt {B:Nat} {w:World} {a:Option Addr} {n cap:Nat} {l:List ByteArray} (h:Rd B w a n cap 1 (strs l)) (k:Nat) (q:k<n):
    ∃ b o,a=some ⟨b,o,none⟩∧∃ d:k<l.length,w.cell? ⟨b,o+k,none⟩=some (.string l[k]):=by
  obtain ⟨f,j,m,e⟩:=h
  rcases e with e | ⟨b,o,g,p,i⟩
  · omega
  · have d:k<l.length:=by simp [strs] at f;omega
    refine ⟨b,o,g,d,?_⟩;rw [i k (by simpa [strs] using d)]
    simp [strs]
theorem Rd.strLen {B:Nat} {w:World} {a:Option Addr} {n cap:Nat} {l:List ByteArray} (h:Rd B w a n cap 1 (strs l)):l.length=n:=by
  have :=h.1;simp [strs] at this;exact this
theorem index_str {B n cap:Nat} {a:Option Addr} {l:List ByteArray} (s:ByteArray) (w:World) (h:Rd B w a n cap 1 (strs l)):
    Calls Tryz.prog 68 #[.slice a n cap,.string s] w fun e t=>e=.returned (.int .i64 (idxI l s))∧w=t:=by
  have y:=h.2.1;have A:=h.2.2.1;have g:=h.strLen;have H:=zz h;have m:=zz g;clear h g;go_enter Tryz.func68,Tryz.ntmps68
  go_wp2
  go_loop [5,8] (fun _ i=>∃ k:Nat,k≤n∧i=.int .i64 k∧Hid (∀ (j:Nat) (d:j<l.length),j<k→(s==l[j])=false)) (fun _ i=>n - (intOf i).toNat)
  case atStart=>exact ⟨0,Nat.zero_le _,rfl,fun j d u=>by omega⟩
  case round=>
    obtain ⟨k,z,rfl,Hn⟩:=hrel
    by_cases q:k<n
    · obtain ⟨b,o,rfl,p,x⟩:=H.out.strAt k q
      go_wp2
      · go_ret
        exact ⟨ret_int (idxI_at l s k p ‹_› Hn.out).symm,rfl⟩
      · go_round
        case rel=>exact ⟨k+1,by omega,by go_num,fun j d v=>by rename_i r;rcases Nat.lt_or_ge j k with f | f;(exact Hn.out j d f);(obtain rfl:j=k:=by omega);exact r⟩
        case measure=>simp [intOf];omega
    · go_wp2
      go_ret
      exact ⟨ret_int (idxI_no l s fun j d=>Hn.out j d (by have :=m.out;omega)).symm,rfl⟩
theorem contains_str {B n cap:Nat} {a:Option Addr} {l:List ByteArray} (s:ByteArray) (w:World) (h:Rd B w a n cap 1 (strs l)):
    Calls Tryz.prog 32 #[.slice a n cap,.string s] w fun e b=>e=.returned (.bool (l.any (s== ·)))∧w=b:=by
  have H:=zz h;clear h;have d:=zz (idxI_ge l s);go_enter Tryz.func32,Tryz.ntmps32
  go_wp2_with (go_at_call 68;refine (index_str s _ H.out).mono ?_;rintro e b ⟨rfl,rfl⟩)
  go_ret;exact ⟨ret_bool d.out,rfl⟩
theorem in_str {B n cap:Nat} {a:Option Addr} {l:List ByteArray} (s:ByteArray) (w:World) (h:Rd B w a n cap 1 (strs l)):
    Calls Tryz.prog 33 #[.slice a n cap,.string s] w fun e t=>e=.returned (.bool (l.any (s== ·)))∧w=t:=by
  have z:=h.2.1;have C:=h.2.2.1;have m:=h.strLen;have H:=zz h;have p:=zz m;clear h m;go_enter Tryz.func33,Tryz.ntmps33
  go_wp2
  go_loop [6,9] (fun _ i=>∃ k:Nat,k≤n∧i=.int .i64 k∧Hid (∀ (j:Nat) (d:j<l.length),j<k→(s==l[j])=false)) (fun _ i=>n - (intOf i).toNat)
  case atStart=>exact ⟨0,Nat.zero_le _,rfl,fun j d u=>by omega⟩
  case round=>
    obtain ⟨k,A,rfl,Hn⟩:=hrel
    by_cases r:k<n
    · obtain ⟨b,o,rfl,q,y⟩:=H.out.strAt k r
      go_wp2
      · go_ret
        refine ⟨ret_bool ?_,rfl⟩
        have f:(l[k]==s)=true:=by assumption
        symm;rw [List.any_eq_true];exact ⟨_,List.getElem_mem q,beq_comm_bool _ _ _ f⟩
      · go_round
        case rel=>exact ⟨k+1,by omega,by go_num,fun j d v=>by rename_i f;rcases Nat.lt_or_ge j k with g | g;(exact Hn.out j d g);(obtain rfl:j=k:=by omega);exact beq_comm_bool _ _ _ f⟩
        case measure=>simp [intOf];omega
    · go_wp2
      go_ret;refine ⟨ret_bool ?_,rfl⟩
      symm;rw [List.any_eq_false];intro x f
      obtain ⟨j,d,rfl⟩:=List.getElem_of_mem f
      rw [Hn.out j d (by have :=p.out;omega)];decide
end
section
open Go.RowKit
attribute [local go_sem] toList_beq empty_beq
def keyWords:List ByteArray:=[⟨#[100,97,116,97]⟩,⟨#[108,101,116]⟩,⟨#[102,114,101,101]⟩,⟨#[105,110]⟩,⟨#[105,102]⟩,⟨#[116,104,101,110]⟩,⟨#[101,108,115,101]⟩]
def isKey (s:ByteArray):Bool:=keyWords.any (s== ·)
theorem key_any (s:ByteArray) (w:World):
    Calls Tryz.prog 122 #[.string s] w fun e a=>e=.returned (.bool (isKey s))∧Below w.heap.size w a:=by
  have b:=zz (below_new w (.cells (strs keyWords).toArray 9));go_enter Tryz.func122,Tryz.ntmps122
  go_wp2_with (go_at_call 32;refine (contains_str (l:=keyWords) s _ (rd_new w (strs keyWords).toArray 9 7 1 rfl (by decide))).mono ?_;rintro e a ⟨rfl,rfl⟩)
  go_ret;exact ⟨rfl,b.out⟩
theorem rkey_any (s:ByteArray) (w:World):
    Calls Tryz.prog 99 #[.string s] w fun e a=>e=.returned (.bool (isKey s))∧Below w.heap.size w a:=by
  have b:=zz (below_new w (.cells (strs keyWords).toArray 9));go_enter Tryz.func99,Tryz.ntmps99
  go_wp2_with (go_at_call 33;refine (in_str (l:=keyWords) s _ (rd_new w (strs keyWords).toArray 9 7 1 rfl (by decide))).mono ?_;rintro e a ⟨rfl,rfl⟩)
  go_ret;exact ⟨rfl,b.out⟩
def symbols:List ByteArray:=[⟨#[61,61]⟩,⟨#[61]⟩,⟨#[124]⟩,⟨#[63]⟩,⟨#[60]⟩,⟨#[43]⟩,⟨#[45]⟩,⟨#[42]⟩,⟨#[40]⟩,⟨#[41]⟩,⟨#[95]⟩]
theorem symbols_any (w:World):
    Calls Tryz.prog 91 #[] w fun e a=>e=.returned (.slice (some ⟨w.heap.size,0,none⟩) 11 11)∧w.alloc (.cells (strs symbols).toArray 9)=a:=by
  go_enter Tryz.func91,Tryz.ntmps91
  go_wp2
  go_ret;exact ⟨rfl,rfl⟩
theorem rsymbols_any (w:World):
    Calls Tryz.prog 102 #[] w fun e a=>e=.returned (.slice (some ⟨w.heap.size,0,none⟩) 11 11)∧w.alloc (.cells (strs symbols).toArray 9)=a:=by
  go_enter Tryz.func102,Tryz.ntmps102
  go_wp2
  go_ret;exact ⟨rfl,rfl⟩
def part (c:Int):Bool:=c==95 || (decide (1≤cls c) && decide (cls c≤3))
def isWord (s:ByteArray) (first:Int):Bool:=decide (0<s.size) && decide (s.size≤24) && (cls (s.data.toList.getD 0 0).toNat==first) && s.data.toList.all fun c=>part c.toNat
theorem cls_range (c:Int):0≤cls c∧cls c≤6:=by unfold cls;repeat' split <;> try omega
theorem isWord_empty (s:ByteArray) (a:Int) (h: ¬0<s.size):isWord s a=false:=by simp [isWord,h]
theorem isWord_long (s:ByteArray) (a:Int) (h:24<s.size):isWord s a=false:=by
  have : ¬s.size≤24:=by omega
  simp [isWord,this]
theorem getD_zero (s:ByteArray) (h:0<s.size):s.data.toList.getD 0 0=s[0]:=by
  have :0<s.data.toList.length:=by rw [length_data];exact h
  rw [List.getD_eq_getElem?_getD,List.getElem?_eq_getElem this];rfl
theorem isWord_first (s:ByteArray) (a:Int) (h:0<s.size) (b:(cls s[0].toNat==a)=false):isWord s a=false:=by
  unfold isWord;rw [getD_zero s h,b];simp
theorem isWord_main (s:ByteArray) (a:Int) (h:0<s.size) (e: ¬24<s.size) (d:(cls s[0].toNat==a)=true):isWord s a=s.data.toList.all fun c=>part c.toNat:=by
  have b:s.size≤24:=by omega
  unfold isWord;rw [getD_zero s h,d];simp [h,b]
theorem all_take_snoc (s:ByteArray) (f:UInt8→Bool) (k:Nat) (h:k<s.size):(s.data.toList.take (k+1)).all f=((s.data.toList.take k).all f && f s[k]):=by
  rw [take_snoc s k h];simp
theorem all_of_bad (s:ByteArray) (f:UInt8→Bool) (k:Nat) (h:k<s.size) (a:f s[k]=false):s.data.toList.all f=false:=by
  rw [List.all_eq_false];exact ⟨_,mem_byte s k h,by rw [a];decide⟩
theorem part_yes (c:Int) (h:(c==95)=true∨(1≤cls c∧cls c≤3)):part c=true:=by
  unfold part;rcases h with h | ⟨a,b⟩
  · rw [h];rfl
  · simp [a,b]
theorem part_no (c:Int) (h:(c==95)=false) (a:cls c<1∨3<cls c):part c=false:=by
  unfold part;rw [h];simp;omega
theorem part_yes' (c:Int) (h:c=95∨(1≤cls c∧cls c≤3)):part c=true:=by
  simp only [part,Bool.or_eq_true,beq_iff_eq,Bool.and_eq_true,decide_eq_true_eq];omega
theorem part_no' (c:Int) (h: ¬c=95∧(cls c<1∨3<cls c)):part c=false:=by
  rw [←Bool.not_eq_true];simp only [part,Bool.or_eq_true,beq_iff_eq,Bool.and_eq_true,decide_eq_true_eq];omega
theorem word_any (s:ByteArray) (first:Int) (w:World) (hs:s.size≤maxLen):
    Calls Tryz.prog 144 #[.string s,.int .i64 first] w fun e w'=>e=.returned (.bool (isWord s first))∧w=w':=by
  unfold maxLen at hs
  by_cases h0:0<s.size
  · have h1:(s==⟨#[]⟩)=false:=by rw [beq_eq_false_iff_ne];rintro rfl;exact absurd h0 (by decide)
    by_cases h2:24<s.size
    · have HF:=zz (isWord_long s first h2)
      go_enter Tryz.func144,Tryz.ntmps144
      go_wp2
      go_step3
      go_wp2
      try rw [Exit.noGoto_ret]
      go_ret;exact ⟨ret_bool HF.out.symm,rfl⟩
    · by_cases h3:(cls s[0].toNat==first)=true
      · have h3':(cls s[0].toNat != first)=false:=by rw [bne,h3];rfl
        have HF:=zz (isWord_main s first h0 h2 h3);clear h3;go_enter Tryz.func144,Tryz.ntmps144
        go_wp2
        go_step3
        go_wp2_with (go_at_call 85;refine (class_any _ _).mono ?_;rintro e w' ⟨rfl,rfl⟩)
        go_step3
        go_wp2
        go_loop [5,6,23] (fun _ _ i=>∃ k:Nat,k≤s.size∧i=.int .i64 k∧Hid ((s.data.toList.take k).all (fun c=>part c.toNat)=true)) (fun _ _ i=>s.size - (intOf i).toNat)
        case atStart=>exact ⟨0,Nat.zero_le _,rfl,rfl⟩
        case round=>
          obtain ⟨k,hk,rfl,Hn⟩:=hrel
          by_cases hlt:k<s.size
          · have hcr:=cls_range s[k].toNat
            go_wp2_with (go_at_call 85;refine (class_any _ _).mono ?_;rintro e w' ⟨rfl,rfl⟩)
            all_goals first
              | (go_round
                 case rel=>exact ⟨k+1,by omega,by go_num,by rw [all_take_snoc _ _ _ hlt,Hn.out,part_yes _ (by first | exact .inl ‹_› | exact .inr (by omega))];rfl⟩
                 case measure=>simp [intOf];omega)
              | (try rw [Exit.noGoto_ret]
                 go_ret
                 exact ⟨ret_bool (by rw [HF.out];exact (all_of_bad s _ k hlt (part_no _ ‹_› (by omega))).symm),rfl⟩)
          · go_wp2
            try rw [Exit.noGoto_ret]
            go_ret
            exact ⟨ret_bool (by rw [HF.out];have :=Hn.out;rw [take_all s k hlt] at this;exact this.symm),rfl⟩
      · have h3:(cls s[0].toNat==first)=false:=by simpa using h3
        have h3':(cls s[0].toNat != first)=true:=by rw [bne,h3];rfl
        have HF:=zz (isWord_first s first h0 h3);clear h3;go_enter Tryz.func144,Tryz.ntmps144
        go_wp2
        go_step3
        go_wp2_with (go_at_call 85;refine (class_any _ _).mono ?_;rintro e w' ⟨rfl,rfl⟩)
        try rw [Exit.noGoto_ret]
        go_ret;exact ⟨ret_bool HF.out.symm,rfl⟩
  · have h1:(s==⟨#[]⟩)=true:=by
      rw [beq_iff_eq];cases s with | mk d=>simp only [ByteArray.mk.injEq];exact Array.eq_empty_of_size_eq_zero (by have :d.size=(ByteArray.mk d).size:=rfl;omega)
    have HF:=zz (isWord_empty s first h0);go_enter Tryz.func144,Tryz.ntmps144
    go_wp2
    go_step3
    go_wp2
    try rw [Exit.noGoto_ret]
    go_ret;exact ⟨ret_bool HF.out.symm,rfl⟩
theorem upper_any (s:ByteArray) (w:World) (b:s.size≤maxLen):
    Calls Tryz.prog 124 #[.string s] w fun e a=>e=.returned (.bool (isWord s 2))∧w=a:=by
  go_enter Tryz.func124,Tryz.ntmps124
  go_wp2_with (go_at_call 144;refine (word_any _ _ _ b).mono ?_;rintro e a ⟨rfl,rfl⟩)
  go_ret;exact ⟨rfl,rfl⟩
theorem name_any (s:ByteArray) (w:World) (b:s.size≤maxLen):
    Calls Tryz.prog 123 #[.string s] w fun e a=>e=.returned (.bool (isWord s 1 && !isKey s))∧Below w.heap.size w a:=by
  by_cases h:isWord s 1=true
  · go_enter Tryz.func123,Tryz.ntmps123
    go_wp2_with (first | (go_at_call 144;refine (word_any _ _ _ b).mono ?_;rintro e a ⟨rfl,rfl⟩) | (go_at_call 122;refine (key_any _ _).mono ?_;rintro e a ⟨rfl,d⟩))
    go_ret;exact ⟨ret_bool (by rw [h];rfl),d⟩
  · have h:isWord s 1=false:=by simpa using h
    go_enter Tryz.func123,Tryz.ntmps123
    go_wp2_with (go_at_call 144;refine (word_any _ _ _ b).mono ?_;rintro e a ⟨rfl,rfl⟩)
    go_ret;exact ⟨ret_bool (by rw [h];rfl),Below.refl _ _⟩
theorem rword_any (s:ByteArray) (first:Int) (w:World) (hs:s.size≤maxLen):
    Calls Tryz.prog 100 #[.string s,.int .i64 first] w fun e w'=>e=.returned (.bool (isWord s first))∧w=w':=by
  unfold maxLen at hs
  by_cases h0:0<s.size
  · have h1:((s.size:Int)==0)=false:=by rw [beq_eq_false_iff_ne];omega
    by_cases h2:24<s.size
    · have HF:=zz (isWord_long s first h2)
      go_enter Tryz.func100,Tryz.ntmps100
      go_wp2
      go_ret;exact ⟨ret_bool HF.out.symm,rfl⟩
    · by_cases h3:(cls s[0].toNat==first)=true
      · have h3':(cls s[0].toNat != first)=false:=by rw [bne,h3];rfl
        have HF:=zz (isWord_main s first h0 h2 h3);clear h3;go_enter Tryz.func100,Tryz.ntmps100
        go_wp2_with (go_at_call 98;refine (rclass_any _ _).mono ?_;rintro e w' ⟨rfl,rfl⟩)
        go_loop [5,6] (fun i _=>∃ k:Nat,k≤s.size∧i=.int .i64 k∧Hid ((s.data.toList.take k).all (fun c=>part c.toNat)=true)) (fun i _=>s.size - (intOf i).toNat)
        case atStart=>exact ⟨0,Nat.zero_le _,rfl,rfl⟩
        case round=>
          obtain ⟨k,hk,rfl,Hn⟩:=hrel
          by_cases hlt:k<s.size
          · have hcr:=cls_range s[k].toNat
            go_wp2_with (go_at_call 98;refine (rclass_any _ _).mono ?_;rintro e w' ⟨rfl,rfl⟩)
            all_goals first
              | (go_round
                 case rel=>exact ⟨k+1,by omega,by go_num,by rw [all_take_snoc _ _ _ hlt,Hn.out,part_yes' _ (by (try simp only [bne_eq_false_iff_eq] at *);omega)];rfl⟩
                 case measure=>simp [intOf];omega)
              | (go_ret
                 exact ⟨ret_bool (by rw [HF.out];exact (all_of_bad s _ k hlt (part_no' _ (by (try simp only [bne_iff_ne,bne_eq_false_iff_eq,ne_eq] at *);omega))).symm),rfl⟩)
          · go_wp2
            go_ret
            exact ⟨ret_bool (by rw [HF.out];have :=Hn.out;rw [take_all s k hlt] at this;exact this.symm),rfl⟩
      · have h3:(cls s[0].toNat==first)=false:=by simpa using h3
        have h3':(cls s[0].toNat != first)=true:=by rw [bne,h3];rfl
        have HF:=zz (isWord_first s first h0 h3);clear h3;go_enter Tryz.func100,Tryz.ntmps100
        go_wp2_with (go_at_call 98;refine (rclass_any _ _).mono ?_;rintro e w' ⟨rfl,rfl⟩)
        go_ret;exact ⟨ret_bool HF.out.symm,rfl⟩
  · have h1:((s.size:Int)==0)=true:=by rw [beq_iff_eq];omega
    have HF:=zz (isWord_empty s first h0);go_enter Tryz.func100,Tryz.ntmps100
    go_wp2
    go_ret;exact ⟨ret_bool HF.out.symm,rfl⟩
end
section
def isDig (c:UInt8):Bool:=decide (48≤c.toNat) && decide (c.toNat≤57)
def val (l:List UInt8):Nat:=l.foldl (fun a c=>10 * a+(c.toNat - 48)) 0
theorem val_snoc (l:List UInt8) (c:UInt8):val (l++[c])=10 * val l+(c.toNat - 48):=by simp [val]
theorem dec_eq (n:Nat):dec n=(if n<10 then [] else dec (n / 10))++[UInt8.ofNat (48+n % 10)]:=by
  unfold dec
  by_cases h:n<10
  · rw [decR_small n h,if_pos h,Nat.mod_eq_of_lt h];rfl
  · rw [decR_great n h,if_neg h];simp
theorem digit_toNat (n:Nat):(UInt8.ofNat (48+n % 10)).toNat=48+n % 10:=by rw [UInt8.toNat_ofNat'];omega
theorem dec_ne_nil (n:Nat):dec n≠[]:=by rw [dec_eq];simp
theorem dec_head:∀ n,0<n→(dec n).head (dec_ne_nil n)≠48:=by
  intro n
  induction n using Nat.strongRecOn with
  | ind n ih =>
    intro h0
    by_cases h:n<10
    · have e:dec n=[UInt8.ofNat (48+n % 10)]:=by rw [dec_eq,if_pos h];rfl
      simp only [e,List.head_cons];intro h1;have :=congrArg UInt8.toNat h1;rw [digit_toNat] at this;have e2:(48:UInt8).toNat=48:=rfl
      omega
    · have e:dec n=dec (n / 10)++[UInt8.ofNat (48+n % 10)]:=by rw [dec_eq,if_neg h]
      simp only [e,List.head_append_of_ne_nil (dec_ne_nil (n / 10))];exact ih (n / 10) (by omega) (by omega)
theorem dec_long (n:Nat) (h:1<(dec n).length):10≤n:=by
  by_cases a:n<10
  · rw [dec_eq,if_pos a] at h;simp at h
  · omega
theorem dec_val:∀ (k:Nat) (l:List UInt8),l.length=k→l.all isDig=true→(hl:l≠[])→(1<l.length→l.head hl≠48)→dec (val l)=l∧(l.head hl≠48→0<val l):=by
  intro k
  induction k with
  | zero=>intro l h _ hl;exact absurd (List.eq_nil_of_length_eq_zero h) hl
  | succ k ih =>
    intro l h hd hl hh;obtain ⟨l',c,rfl⟩:∃ l' c,l=l'++[c]:=⟨l.dropLast,l.getLast hl,(List.dropLast_concat_getLast hl).symm⟩;rw [List.all_append,Bool.and_eq_true] at hd
    have hc:48≤c.toNat∧c.toNat≤57:=by
      have :=hd.2;simp [isDig] at this;exact this
    have hof:UInt8.ofNat c.toNat=c:=by simp
    rw [val_snoc]
    by_cases hn:l'=[]
    · subst hn
      refine ⟨?_,?_⟩
      · have e:10 * val []+(c.toNat - 48)=c.toNat - 48:=by simp [val]
        rw [e,dec_eq,if_pos (by omega),Nat.mod_eq_of_lt (by omega),show 48+(c.toNat - 48)=c.toNat by omega,hof]
      · intro h1
        simp only [List.nil_append,List.head_cons] at h1
        have :c.toNat≠48:=fun e=>h1 (UInt8.toNat_inj.1 (by simpa using e))
        omega
    · have hhead:(l'++[c]).head hl=l'.head hn:=List.head_append_of_ne_nil hn
      have hlen:1<(l'++[c]).length:=by
        rw [List.length_append];have :=List.length_pos_iff.2 hn;simp;omega
      have h48:l'.head hn≠48:=by rw [←hhead];exact hh hlen
      obtain ⟨i1,i2⟩:=ih l' (by rw [List.length_append] at h;simpa using h) hd.1 hn (fun _=>h48);have hp:=i2 h48;refine ⟨?_,fun _=>by omega⟩
      rw [dec_eq,if_neg (by omega),show (10 * val l'+(c.toNat - 48)) / 10=val l' by omega,show (10 * val l'+(c.toNat - 48)) % 10=c.toNat - 48 by omega,i1,
        show 48+(c.toNat - 48)=c.toNat by omega,hof]
theorem dec_length (n:Nat) (h:n≤2147483647):(dec n).length≤10:=by
  rw [dec,List.length_reverse];exact decR_len 9 n (by omega)
def okN (l:List UInt8):Bool:=l.all isDig && decide (val l≤2147483647) && (dec (val l)==l)
def numN (l:List UInt8):Int:=if okN l then (val l:Int) else 0
theorem okN_bad (l:List UInt8) (h:l.all isDig=false):okN l=false:=by simp [okN,h]
theorem okN_great (l:List UInt8) (h: ¬val l≤2147483647):okN l=false:=by simp [okN,h]
theorem okN_other (l:List UInt8) (h:dec (val l)≠l):okN l=false:=by simp [okN,h]
theorem okN_ok (l:List UInt8) (a:l.all isDig=true) (b:val l≤2147483647) (d:dec (val l)=l):okN l=true:=by
  rw [okN,a,d];simp [b]
theorem numN_ok (l:List UInt8) (h:okN l=true):numN l=val l:=by rw [numN,if_pos h]
theorem numN_no (l:List UInt8) (h:okN l=false):numN l=0:=by rw [numN,h];rfl
theorem okN_nil:okN []=false:=by
  have :dec (val [])≠[]:=dec_ne_nil _;exact okN_other _ this
theorem okN_long (l:List UInt8) (h:10<l.length):okN l=false:=by
  by_cases a:val l≤2147483647
  · refine okN_other _ fun e=>?_
    have :=dec_length (val l) a
    rw [e] at this;omega
  · exact okN_great l a
theorem okN_nought (l:List UInt8) (g:l≠[]) (h:1<l.length) (i:l.head g=48):okN l=false:=by
  refine okN_other _ fun e=>?_;have m:=dec_long (val l) (by rw [e];exact h);have j:=dec_head (val l) (by omega)
  apply j
  have :∀ (a b:List UInt8) (d:a≠[]) (f:b≠[]),a=b→a.head d=b.head f:=by intro a b d f e;subst e;rfl
  rw [this _ _ _ g e,i]
theorem val_append (a:List UInt8):∀ b:List UInt8,val a≤val (a++b):=by
  have :∀ (b:List UInt8) (x y:Nat),x≤y→x≤b.foldl (fun a c=>10 * a+(c.toNat - 48)) y:=by
    intro b
    induction b with
    | nil=>intro x y h;exact h
    | cons c b ih=>intro x y h;rw [List.foldl_cons];exact ih x _ (by omega)
  intro b;rw [val,val,List.foldl_append];exact this b _ _ (Nat.le_refl _)
end
end Go.Proofs.YtcoiagfeoonpbaaGreat
