/-
  The walks of words: Key, Symbols, word, Word, Name, Upper. No condition but sizes.
-/
import Derived.Test.YtcoiagfeoonpbaaGreatSm0
set_option maxHeartbeats 20000000
set_option maxRecDepth 100000
namespace Go.Proofs.YtcoiagfeoonpbaaGreat
section
open Go.RowKit
attribute [local go_sem] toList_beq empty_beq
def keyWords:List ByteArray:=[⟨#[100,97,116,97]⟩,⟨#[108,101,116]⟩,⟨#[102,114,101,101]⟩,⟨#[105,110]⟩,⟨#[105,102]⟩,⟨#[116,104,101,110]⟩,⟨#[101,108,115,101]⟩]
def isKey (s:ByteArray):Bool:=keyWords.any (s== ·)
theorem key_any (s:ByteArray) (w:World):
    Calls Tryz.prog 122 #[.string s] w fun e w'=>e=.returned (.bool (isKey s))∧Below w.heap.size w w':=by
  have hb:=zz (below_new w (.cells (strs keyWords).toArray 9));go_enter Tryz.func122,Tryz.ntmps122
  go_wp2_with (go_at_call 32;refine (contains_str (l:=keyWords) s _ (rd_new w (strs keyWords).toArray 9 7 1 rfl (by decide))).mono ?_;rintro e w' ⟨rfl,rfl⟩)
  go_ret;exact ⟨rfl,hb.out⟩
def symbols:List ByteArray:=[⟨#[61,61]⟩,⟨#[61]⟩,⟨#[124]⟩,⟨#[63]⟩,⟨#[60]⟩,⟨#[43]⟩,⟨#[45]⟩,⟨#[42]⟩,⟨#[40]⟩,⟨#[41]⟩,⟨#[95]⟩]
theorem symbols_any (w:World):
    Calls Tryz.prog 91 #[] w fun e w'=>e=.returned (.slice (some ⟨w.heap.size,0,none⟩) 11 11)∧w.alloc (.cells (strs symbols).toArray 9)=w':=by
  go_enter Tryz.func91,Tryz.ntmps91
  go_wp2
  go_ret;exact ⟨rfl,rfl⟩
def part (c:Int):Bool:=c==95 || (decide (1≤cls c) && decide (cls c≤3))
def isWord (s:ByteArray) (first:Int):Bool:=decide (0<s.size) && decide (s.size≤24) && (cls (s.data.toList.getD 0 0).toNat==first) && s.data.toList.all fun c=>part c.toNat
theorem cls_range (c:Int):0≤cls c∧cls c≤6:=by unfold cls;repeat' split <;> try omega
theorem isWord_empty (s:ByteArray) (first:Int) (h: ¬0<s.size):isWord s first=false:=by simp [isWord,h]
theorem isWord_long (s:ByteArray) (first:Int) (h:24<s.size):isWord s first=false:=by
  have : ¬s.size≤24:=by omega
  simp [isWord,this]
theorem getD_zero (s:ByteArray) (h:0<s.size):s.data.toList.getD 0 0=s[0]:=by
  have :0<s.data.toList.length:=by rw [length_data];exact h
  rw [List.getD_eq_getElem?_getD,List.getElem?_eq_getElem this];rfl
theorem isWord_first (s:ByteArray) (first:Int) (h:0<s.size) (hc:(cls s[0].toNat==first)=false):isWord s first=false:=by
  unfold isWord;rw [getD_zero s h,hc];simp
theorem isWord_main (s:ByteArray) (first:Int) (h:0<s.size) (h2: ¬24<s.size) (hc:(cls s[0].toNat==first)=true):isWord s first=s.data.toList.all fun c=>part c.toNat:=by
  have h3:s.size≤24:=by omega
  unfold isWord;rw [getD_zero s h,hc];simp [h,h3]
theorem all_take_snoc (s:ByteArray) (f:UInt8→Bool) (k:Nat) (h:k<s.size):(s.data.toList.take (k+1)).all f=((s.data.toList.take k).all f && f s[k]):=by
  rw [take_snoc s k h];simp
theorem all_of_bad (s:ByteArray) (f:UInt8→Bool) (k:Nat) (h:k<s.size) (hf:f s[k]=false):s.data.toList.all f=false:=by
  rw [List.all_eq_false];exact ⟨_,mem_byte s k h,by rw [hf];decide⟩
theorem part_yes (c:Int) (h:(c==95)=true∨(1≤cls c∧cls c≤3)):part c=true:=by
  unfold part;rcases h with h | ⟨h1,h2⟩
  · rw [h];rfl
  · simp [h1,h2]
theorem part_no (c:Int) (h:(c==95)=false) (h2:cls c<1∨3<cls c):part c=false:=by
  unfold part;rw [h];simp;omega
theorem word_any (s:ByteArray) (first:Int) (w:World) (hs:s.size≤maxLen):
    Calls Tryz.prog 144 #[.string s,.int .i64 first] w fun e w'=>e=.returned (.bool (isWord s first))∧w=w':=by
  unfold maxLen at hs
  by_cases h0:0<s.size
  · have h1:(s==⟨#[]⟩)=false:=by rw [beq_eq_false_iff_ne];rintro rfl;exact absurd h0 (by decide)
    by_cases h2:24<s.size
    · have HF:=zz (isWord_long s first h2)
      go_enter Tryz.func144,Tryz.ntmps144
      go_wp2
      go_step3
      go_wp2
      try rw [Exit.noGoto_ret]
      go_ret;exact ⟨ret_bool HF.out.symm,rfl⟩
    · by_cases h3:(cls s[0].toNat==first)=true
      · have h3':(cls s[0].toNat != first)=false:=by rw [bne,h3];rfl
        have HF:=zz (isWord_main s first h0 h2 h3);clear h3;go_enter Tryz.func144,Tryz.ntmps144
        go_wp2
        go_step3
        go_wp2_with (go_at_call 85;refine (class_any _ _).mono ?_;rintro e w' ⟨rfl,rfl⟩)
        go_step3
        go_wp2
        go_loop [5,6,23] (fun _ _ i=>∃ k:Nat,k≤s.size∧i=.int .i64 k∧Hid ((s.data.toList.take k).all (fun c=>part c.toNat)=true)) (fun _ _ i=>s.size - (intOf i).toNat)
        case atStart=>exact ⟨0,Nat.zero_le _,rfl,rfl⟩
        case round=>
          obtain ⟨k,hk,rfl,Hn⟩:=hrel
          by_cases hlt:k<s.size
          · have hcr:=cls_range s[k].toNat
            go_wp2_with (go_at_call 85;refine (class_any _ _).mono ?_;rintro e w' ⟨rfl,rfl⟩)
            all_goals first
              | (go_round
                 case rel=>exact ⟨k+1,by omega,by go_num,by rw [all_take_snoc _ _ _ hlt,Hn.out,part_yes _ (by first | exact .inl ‹_› | exact .inr (by omega))];rfl⟩
                 case measure=>simp [intOf];omega)
              | (try rw [Exit.noGoto_ret]
                 go_ret
                 exact ⟨ret_bool (by rw [HF.out];exact (all_of_bad s _ k hlt (part_no _ ‹_› (by omega))).symm),rfl⟩)
          · go_wp2
            try rw [Exit.noGoto_ret]
            go_ret
            exact ⟨ret_bool (by rw [HF.out];have :=Hn.out;rw [take_all s k hlt] at this;exact this.symm),rfl⟩
      · have h3:(cls s[0].toNat==first)=false:=by simpa using h3
        have h3':(cls s[0].toNat != first)=true:=by rw [bne,h3];rfl
        have HF:=zz (isWord_first s first h0 h3);clear h3;go_enter Tryz.func144,Tryz.ntmps144
        go_wp2
        go_step3
        go_wp2_with (go_at_call 85;refine (class_any _ _).mono ?_;rintro e w' ⟨rfl,rfl⟩)
        try rw [Exit.noGoto_ret]
        go_ret;exact ⟨ret_bool HF.out.symm,rfl⟩
  · have h1:(s==⟨#[]⟩)=true:=by
      rw [beq_iff_eq];cases s with | mk d=>simp only [ByteArray.mk.injEq];exact Array.eq_empty_of_size_eq_zero (by have :d.size=(ByteArray.mk d).size:=rfl;omega)
    have HF:=zz (isWord_empty s first h0);go_enter Tryz.func144,Tryz.ntmps144
    go_wp2
    go_step3
    go_wp2
    try rw [Exit.noGoto_ret]
    go_ret;exact ⟨ret_bool HF.out.symm,rfl⟩
theorem upper_any (s:ByteArray) (w:World) (hs:s.size≤maxLen):
    Calls Tryz.prog 124 #[.string s] w fun e w'=>e=.returned (.bool (isWord s 2))∧w=w':=by
  go_enter Tryz.func124,Tryz.ntmps124
  go_wp2_with (go_at_call 144;refine (word_any _ _ _ hs).mono ?_;rintro e w' ⟨rfl,rfl⟩)
  go_ret;exact ⟨rfl,rfl⟩
theorem name_any (s:ByteArray) (w:World) (hs:s.size≤maxLen):
    Calls Tryz.prog 123 #[.string s] w fun e w'=>e=.returned (.bool (isWord s 1 && !isKey s))∧Below w.heap.size w w':=by
  by_cases h:isWord s 1=true
  · go_enter Tryz.func123,Tryz.ntmps123
    go_wp2_with (first | (go_at_call 144;refine (word_any _ _ _ hs).mono ?_;rintro e w' ⟨rfl,rfl⟩) | (go_at_call 122;refine (key_any _ _).mono ?_;rintro e w' ⟨rfl,hb⟩))
    go_ret;exact ⟨ret_bool (by rw [h];rfl),hb⟩
  · have h:isWord s 1=false:=by simpa using h
    go_enter Tryz.func123,Tryz.ntmps123
    go_wp2_with (go_at_call 144;refine (word_any _ _ _ hs).mono ?_;rintro e w' ⟨rfl,rfl⟩)
    go_ret;exact ⟨ret_bool (by rw [h];rfl),Below.refl _ _⟩
end
section
def isDig (c:UInt8):Bool:=decide (48≤c.toNat) && decide (c.toNat≤57)
def val (l:List UInt8):Nat:=l.foldl (fun a c=>10 * a+(c.toNat - 48)) 0
theorem val_snoc (l:List UInt8) (c:UInt8):val (l++[c])=10 * val l+(c.toNat - 48):=by simp [val]
theorem dec_eq (n:Nat):dec n=(if n<10 then [] else dec (n / 10))++[UInt8.ofNat (48+n % 10)]:=by
  unfold dec
  by_cases h:n<10
  · rw [decR_small n h,if_pos h,Nat.mod_eq_of_lt h];rfl
  · rw [decR_great n h,if_neg h];simp
theorem digit_toNat (n:Nat):(UInt8.ofNat (48+n % 10)).toNat=48+n % 10:=by rw [UInt8.toNat_ofNat'];omega
theorem digit_isDig (n:Nat):isDig (UInt8.ofNat (48+n % 10))=true:=by
  simp only [isDig,digit_toNat,Bool.and_eq_true,decide_eq_true_eq];omega
theorem val_dec:∀ n,val (dec n)=n:=by
  intro n
  induction n using Nat.strongRecOn with
  | ind n ih =>
    rw [dec_eq,val_snoc,digit_toNat]
    by_cases h:n<10
    · rw [if_pos h];simp [val];omega
    · rw [if_neg h,ih (n / 10) (by omega)];omega
theorem dec_digits:∀ n,(dec n).all isDig=true:=by
  intro n
  induction n using Nat.strongRecOn with
  | ind n ih =>
    rw [dec_eq,List.all_append,Bool.and_eq_true];refine ⟨?_,by rw [List.all_cons,digit_isDig];rfl⟩
    by_cases h:n<10
    · rw [if_pos h];rfl
    · rw [if_neg h];exact ih (n / 10) (by omega)
def okN (l:List UInt8):Bool:=l.all isDig && decide (val l≤2147483647) && (dec (val l)==l)
def numN (l:List UInt8):Int:=if okN l then (val l:Int) else 0
theorem okN_dec (n:Nat):okN (dec n)=decide (n≤2147483647):=by simp [okN,dec_digits,val_dec]
theorem numN_dec (n:Nat) (h:n≤2147483647):numN (dec n)=n:=by rw [numN,okN_dec,if_pos (by simpa using h),val_dec]
theorem okN_bad (l:List UInt8) (h:l.all isDig=false):okN l=false:=by simp [okN,h]
theorem okN_great (l:List UInt8) (h: ¬val l≤2147483647):okN l=false:=by simp [okN,h]
theorem okN_other (l:List UInt8) (h:dec (val l)≠l):okN l=false:=by simp [okN,h]
theorem okN_ok (l:List UInt8) (h1:l.all isDig=true) (h2:val l≤2147483647) (h3:dec (val l)=l):okN l=true:=by
  rw [okN,h1,h3];simp [h2]
theorem numN_ok (l:List UInt8) (h:okN l=true):numN l=val l:=by rw [numN,if_pos h]
theorem numN_no (l:List UInt8) (h:okN l=false):numN l=0:=by rw [numN,h];rfl
theorem val_append (a:List UInt8):∀ b:List UInt8,val a≤val (a++b):=by
  have :∀ (b:List UInt8) (x y:Nat),x≤y→x≤b.foldl (fun a c=>10 * a+(c.toNat - 48)) y:=by
    intro b
    induction b with
    | nil=>intro x y h;exact h
    | cons c b ih=>intro x y h;rw [List.foldl_cons];exact ih x _ (by omega)
  intro b;rw [val,val,List.foldl_append];exact this b _ _ (Nat.le_refl _)
end
section
open Go.RowKit
theorem grownBy_refl (w:World) (r:Option Nat):w.grownBy w r:=⟨rfl,rfl,rfl,Nat.le_refl _,fun _ _ _=>rfl⟩
theorem grownBy_trans {w w' w'':World} {r:Option Nat} (h:w.grownBy w' r) (k:w'.grownBy w'' r):w.grownBy w'' r:=
  ⟨k.os.trans h.os,k.tape.trans h.tape,k.output.trans h.output,Nat.le_trans h.size k.size,fun i hi hr=>(k.block i (Nat.lt_of_lt_of_le hi h.size) hr).trans (h.block i hi hr)⟩
theorem grownBy_setCell (w:World) (g o:Nat) (v:Value):w.grownBy (w.setCell ⟨g,o,none⟩ v) (some g):=
  ⟨rfl,rfl,rfl,by simp [World.setCell],fun k _ hk=>Below.heap_setCell w ⟨g,o,none⟩ v k (fun e=>hk (by rw [e]))⟩
theorem grownBy_drew (w:World) (r:Option Nat):w.grownBy w.drew r:=⟨rfl,rfl,rfl,Nat.le_refl _,fun _ _ _=>rfl⟩
theorem cell_set_same (w:World) (g o:Nat) (v:Value) (h:(w.cell? ⟨g,o,none⟩).isSome=true):(w.setCell ⟨g,o,none⟩ v).cell? ⟨g,o,none⟩=some v:=World.cell?_setCell_same' w _ v h
theorem cell_set_other (w:World) (g o j:Nat) (v:Value) (h:j≠o):(w.setCell ⟨g,o,none⟩ v).cell? ⟨g,j,none⟩=w.cell? ⟨g,j,none⟩:=World.cell?_setCell_other w _ _ _ (fun e=>h (by injection e with _ h2;exact h2.symm))
def Dr (w w':World):Prop:=w'.heap=w.heap∧w'.os=w.os∧w'.tape=w.tape∧w'.output=w.output
theorem Dr.refl (w:World):Dr w w:=⟨rfl,rfl,rfl,rfl⟩
theorem Dr.below {w w':World} (h:Dr w w') {B:Nat} {a:World} (k:Below B a w):Below B a w':=
  ⟨h.2.1.trans k.os,h.2.2.1.trans k.tape,h.2.2.2.trans k.output,by rw [h.1];exact k.size,fun i hi=>by rw [h.1];exact k.block i hi⟩
theorem Dr.cell {w w':World} (h:Dr w w') (a:Addr):w'.cell? a=w.cell? a:=by simp only [World.cell?,h.1]
theorem Dr.frozen {w w':World} (h:Dr w w') (a:Addr):w'.frozen? a=w.frozen? a:=by simp only [World.frozen?,h.1]
end
section
open Go.RowKit
structure Far (S:Nat→Prop) (w w':World):Prop where
  os:w'.os=w.os
  tape:w'.tape=w.tape
  output:w'.output=w.output
  size:w.heap.size≤w'.heap.size
  block:∀ k,k<w.heap.size→ ¬S k→w'.heap[k]?=w.heap[k]?
theorem Far.refl (S:Nat→Prop) (w:World):Far S w w:=⟨rfl,rfl,rfl,Nat.le_refl _,fun _ _ _=>rfl⟩
theorem Far.trans {S:Nat→Prop} {a b c:World} (h:Far S a b) (k:Far S b c):Far S a c:=
  ⟨k.os.trans h.os,k.tape.trans h.tape,k.output.trans h.output,Nat.le_trans h.size k.size,fun i hi hs=>(k.block i (Nat.lt_of_lt_of_le hi h.size) hs).trans (h.block i hi hs)⟩
theorem Far.mono {S T:Nat→Prop} {w w':World} (h:Far S w w') (hST:∀ k,S k→T k):Far T w w':=⟨h.os,h.tape,h.output,h.size,fun k hk hT=>h.block k hk fun hS=>hT (hST k hS)⟩
theorem Far.of {S:Nat→Prop} {w w':World} (h:Below w.heap.size w w'):Far S w w':=⟨h.os,h.tape,h.output,h.size,fun k hk _=>h.block k hk⟩
theorem Far.toB {B:Nat} {w w':World} (h:Far (fun k=>B≤k) w w') (hB:B≤w.heap.size):Below B w w':=⟨h.os,h.tape,h.output,h.size,fun k hk=>h.block k (by omega) (by omega)⟩
theorem Far.drewN {S:Nat→Prop} {a w:World} (h:Far S a w) (n:Nat):Far S a (w.drewN n):=⟨h.os,h.tape,h.output,h.size,h.block⟩
theorem Far.setCell {S:Nat→Prop} {a w:World} (h:Far S a w) {p:Addr} (hp:S p.block) (u:Value):Far S a (w.setCell p u):=
  ⟨h.os,h.tape,h.output,by have :=h.size;simpa [World.setCell] using this,fun k hk hS=>(Below.heap_setCell w p u k (fun e=>hS (e ▸ hp))).trans (h.block k hk hS)⟩
theorem Dr.far {w w':World} (h:Dr w w') {S:Nat→Prop} {a:World} (k:Far S a w):Far S a w':=
  ⟨h.2.1.trans k.os,h.2.2.1.trans k.tape,h.2.2.2.trans k.output,by rw [h.1];exact k.size,fun i hi hs=>by rw [h.1];exact k.block i hi hs⟩
theorem Far.cell {S:Nat→Prop} {w w':World} (h:Far S w w') {b o:Nat} (hb:b<w.heap.size) (hs: ¬S b):w'.cell? ⟨b,o,none⟩=w.cell? ⟨b,o,none⟩:=World.cell?_of_block (h.block b hb hs)
end
end Go.Proofs.YtcoiagfeoonpbaaGreat
