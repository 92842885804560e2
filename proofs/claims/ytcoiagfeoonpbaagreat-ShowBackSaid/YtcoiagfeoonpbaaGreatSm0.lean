/-
  Plain words and lemmas for the walks: how a slice reads in memory, what is kept when memory grows, small facts on lists. No condition.
-/
import Derived.Lib.Hide
import Derived.Test.YtcoiagfeoonpbaaGreatRows
import Derived.WalkKit
import Derived.WalkSpells
import Derived.WalkLawsBesides
import Derived.Lib.Strings
import Derived.Deep.Draws
set_option maxHeartbeats 20000000
set_option maxRecDepth 100000
namespace Go.Proofs.YtcoiagfeoonpbaaGreat
section
theorem zz {p:Prop} (h:p):Go.RowKit.Hid p:=Go.Lib.hid h
open Go.RowKit
theorem ret_int {k:IntKind} {a b:Int} (h:a=b):Ending.returned (.int k a)=.returned (.int k b):=by rw [h]
theorem ret_bool {a b:Bool} (h:a=b):Ending.returned (.bool a)=.returned (.bool b):=by rw [h]
theorem ret_str {a b:ByteArray} (h:a=b):Ending.returned (.string a)=.returned (.string b):=by rw [h]
def Rd (B:Nat) (w:World) (a:Option Addr) (n cap sz:Nat) (xs:List Value):Prop:=
  xs.length=n * sz∧n≤cap∧cap≤9223372036854775807∧(n=0∨∃ b o,a=some ⟨b,o,none⟩∧b<B∧∀ (j:Nat) (h:j<xs.length),w.cell? ⟨b,o+j,none⟩=some xs[j])
theorem Rd.mono {B:Nat} {w w':World} {a:Option Addr} {n cap sz:Nat} {xs:List Value} (h:Rd B w a n cap sz xs) (hb:Below B w w'):Rd B w' a n cap sz xs:=by
  obtain ⟨h1,h2,h3,h4⟩:=h;refine ⟨h1,h2,h3,?_⟩
  rcases h4 with h4 | ⟨b,o,ha,hbB,hc⟩
  · exact .inl h4
  · exact .inr ⟨b,o,ha,hbB,fun j hj=>(hb.cell (p:=⟨b,o+j,none⟩) hbB).trans (hc j hj)⟩
theorem Rd.le {B B':Nat} {w:World} {a:Option Addr} {n cap sz:Nat} {xs:List Value} (h:Rd B w a n cap sz xs) (hb:B≤B'):Rd B' w a n cap sz xs:=by
  obtain ⟨h1,h2,h3,h4⟩:=h;refine ⟨h1,h2,h3,?_⟩
  rcases h4 with h4 | ⟨b,o,ha,hbB,hc⟩
  · exact .inl h4
  · exact .inr ⟨b,o,ha,Nat.lt_of_lt_of_le hbB hb,hc⟩
theorem Below.to {w w' w'':World} (h:Below w.heap.size w w') (k:Below w'.heap.size w' w''):Below w.heap.size w w'':=h.trans (k.mono h.size)
theorem take_snoc (s:ByteArray) (k:Nat) (h:k<s.size):s.data.toList.take (k+1)=s.data.toList.take k++[s[k]]:=by
  rw [List.take_succ_eq_append_getElem (by simpa using h)];rfl
theorem take_all (s:ByteArray) (k:Nat) (h: ¬k<s.size):s.data.toList.take k=s.data.toList:=List.take_of_length_le (by simp;omega)
theorem mem_byte (s:ByteArray) (k:Nat) (h:k<s.size):s[k]∈s.data.toList:=Array.mem_toList_iff.2 (Array.getElem_mem (xs:=s.data) h)
theorem length_data (s:ByteArray):s.data.toList.length=s.size:=by rw [Array.length_toList];rfl
theorem str_eta (s:ByteArray):(⟨s.data.toList.toArray⟩:ByteArray)=s:=by simp
theorem bytes_beq (a b:ByteArray):(a==b)=(a.data==b.data):=by cases a;cases b;rfl
instance bytes_lawful:LawfulBEq ByteArray where
  eq_of_beq {a b} h:=by rw [bytes_beq,beq_iff_eq] at h;cases a;cases b;simp at h;rw [h]
  rfl {a} :=by rw [bytes_beq];exact beq_self_eq_true _
theorem toList_beq (a b:ByteArray):(a.toList==b.toList)=(a==b):=by
  rw [Bool.eq_iff_iff,beq_iff_eq,beq_iff_eq]
  constructor
  · intro h;rw [Lib.toList_data,Lib.toList_data] at h
    cases a;cases b;simp at h;rw [h]
  · intro h;rw [h]
theorem empty_beq (a:ByteArray):a.toList.isEmpty=(a==⟨#[]⟩):=by
  rw [←toList_beq,Bool.eq_iff_iff];simp
def idxI {α:Type} [BEq α] (l:List α) (s:α):Int:=if l.any (s== ·) then (l.findIdx (s== ·):Int) else -1
theorem idxI_at {α:Type} [BEq α] (l:List α) (s:α) (k:Nat) (hk:k<l.length) (h:(s==l[k])=true) (hn:∀ (j:Nat) (hj:j<l.length),j<k→(s==l[j])=false):idxI l s=k:=by
  have ha:l.any (s== ·)=true:=by rw [List.any_eq_true];exact ⟨_,List.getElem_mem hk,h⟩
  rw [idxI,if_pos ha];have :l.findIdx (s== ·)=k:=(List.findIdx_eq hk).2 ⟨h,fun j hj=>hn j (by omega) hj⟩;rw [this]
theorem idxI_no {α:Type} [BEq α] (l:List α) (s:α) (hn:∀ (j:Nat) (hj:j<l.length),(s==l[j])=false):idxI l s= -1:=by
  have ha: ¬l.any (s== ·)=true:=by
    rw [List.any_eq_true];rintro ⟨x,hx,hs⟩;obtain ⟨j,hj,rfl⟩:=List.getElem_of_mem hx;rw [hn j hj] at hs;cases hs
  rw [idxI,if_neg ha]
theorem idxI_ge {α:Type} [BEq α] (l:List α) (s:α):decide (0≤idxI l s)=l.any (s== ·):=by
  unfold idxI;split
  · rename_i h;rw [h];simp
  · rename_i h;simp only [Bool.not_eq_true] at h;rw [h];rfl
end
section
open Go.RowKit
theorem rd_new (w:World) (cs:Array Value) (t:TypeId) (n sz:Nat) (h:cs.size=n * sz) (hn:n≤9223372036854775807):
    Rd (w.heap.size+1) (w.alloc (.cells cs t)) (some ⟨w.heap.size,0,none⟩) n n sz cs.toList:=by
  refine ⟨by simpa using h,Nat.le_refl _,hn,.inr ⟨w.heap.size,0,rfl,Nat.lt_succ_self _,fun j hj=>?_⟩⟩;have hb:(w.alloc (.cells cs t)).heap[w.heap.size]?=some (.cells cs t):=(MapKept.heap_alloc w _).1;simp only [World.cell?,hb]
  simp at hj ⊢
theorem below_new (w:World) (o:Obj):Below w.heap.size w (w.alloc o):=(Below.refl _ w).alloc (Nat.le_refl _) o
theorem below_drewN {B:Nat} {a w:World} (h:Below B a w) (n:Nat):Below B a (w.drewN n):=⟨h.os,h.tape,h.output,h.size,h.block⟩
theorem Below.toA {w w1 w2:World} {o:Obj} (h:Below w.heap.size w w1) (k:Below (w1.alloc o).heap.size (w1.alloc o) w2):Below w.heap.size w w2:=Below.to (h.alloc h.size o) k
end
section
open Go.RowKit
attribute [local go_sem] toList_beq empty_beq
def decR (n:Nat):List UInt8:=UInt8.ofNat (48+n % 10)::(if n<10 then [] else decR (n / 10))
termination_by n
def dec (n:Nat):List UInt8:=(decR n).reverse
theorem decR_small (n:Nat) (h:n<10):decR n=[UInt8.ofNat (48+n)]:=by
  rw [decR,if_pos h,Nat.mod_eq_of_lt h]
theorem decR_great (n:Nat) (h: ¬n<10):decR n=UInt8.ofNat (48+n % 10)::decR (n / 10):=by
  rw [decR,if_neg h]
theorem decR_len (k:Nat):∀ n,n<10 ^ (k+1)→(decR n).length≤k+1:=by
  induction k with
  | zero=>intro n h;rw [decR_small n (by simpa using h)];simp
  | succ k ih =>
    intro n h
    by_cases h1:n<10
    · rw [decR_small n h1];simp
    · rw [decR_great n h1,List.length_cons]
      have :=ih (n / 10) (by rw [Nat.div_lt_iff_lt_mul (by decide)];rw [Nat.pow_succ] at h;exact h)
      omega
theorem decR_len64 (n:Nat) (h:n≤18446744073709551615):(decR n).length≤20:=decR_len 19 n (by omega)
theorem decR_pos (n:Nat):1≤(decR n).length:=by rw [decR];simp
theorem dec_round (N u:Nat) (l:List UInt8) (h:dec N=(decR u).reverse++l) (h10: ¬u<10):dec N=(decR (u / 10)).reverse++(UInt8.ofNat (48+u % 10)::l):=by
  rw [h,decR_great u h10];simp
theorem dec_last (N u:Nat) (l:List UInt8) (h:dec N=(decR u).reverse++l) (h10:u<10):dec N=UInt8.ofNat (48+u % 10)::l:=by
  rw [h,decR_small u h10,Nat.mod_eq_of_lt h10];simp
theorem dec_size (N u:Nat) (l:List UInt8) (h:dec N=(decR u).reverse++l) (hN:N≤18446744073709551615):l.length≤19:=by
  have h1:=decR_len64 N hN;have h2:=congrArg List.length h;have h3:=decR_pos u
  simp [dec] at h2
  omega
theorem cons_str (x:Nat) (l m:List UInt8) (h:m=UInt8.ofNat (48+x)::l):(⟨#[48+UInt8.ofNat x]⟩:ByteArray)++⟨l.toArray⟩=⟨m.toArray⟩:=by
  rw [h,show (#[48+UInt8.ofNat x]:Array UInt8)=[UInt8.ofNat (48+x)].toArray by simp,ByteArray.mk_append_mk];rfl
theorem conv_one (w:World) (x:Int):(convert 93 9 (.slice (some ⟨w.heap.size,0,none⟩) 1 1)).run Tryz.prog (w.alloc (.cells #[.int .u8 x] 5))=
    .ok (.string ⟨[UInt8.ofNat x.toNat].toArray⟩) (w.alloc (.cells #[.int .u8 x] 5)):=by
  have h:=run_convert_bytes_arg (P:=Tryz.prog) (w.alloc (.cells #[.int .u8 x] 5)) 93 5 Tryz.underlying93 Tryz.underlying5 w.heap.size 0 1 1 [x] rfl
    (fun i hi => by obtain rfl : i = 0 := by omega
                    exact (rd_new w #[.int .u8 x] 5 1 1 rfl (by decide)).2.2.2.resolve_left (by decide) |> fun ⟨b,o,hb,_,hc⟩=>by cases hb;exact hc 0 (by simp)) 9 Tryz.underlying9
  exact h
attribute [local go_sem] conv_one
def digs (n:Int):List UInt8:=if n<0 then 45::dec n.natAbs else dec n.toNat
theorem digs_neg (n m:Int) (h:n<0) (hm:m= -n):digs n=45::dec m.toNat:=by
  rw [digs,if_pos h,show n.natAbs=m.toNat by omega]
theorem digs_pos (n:Int) (h: ¬n<0):digs n=dec n.toNat:=by rw [digs,if_neg h]
theorem dec_len (n:Nat) (h:n≤18446744073709551615):(dec n).length≤20:=by rw [dec,List.length_reverse];exact decR_len64 n h
theorem minus_str (l m:List UInt8) (h:m=45::l):(⟨#[45]⟩:ByteArray)++⟨l.toArray⟩=⟨m.toArray⟩:=by
  rw [h,show (#[45]:Array UInt8)=[45].toArray by rfl,ByteArray.mk_append_mk];rfl
end
section
open Go.RowKit
attribute [local go_sem] toList_beq empty_beq
def cls (b:Int):Int:=
  if 97≤b∧b≤122 then 1 else if 65≤b∧b≤90 then 2 else if 48≤b∧b≤57 then 3 else if b=32 then 4 else if b=10 then 5
  else if b=61∨b=124∨b=63∨b=60∨b=43∨b=45∨b=42∨b=40∨b=41∨b=95 then 6 else 0
theorem class_any (b:Int) (w:World):
    Calls Tryz.prog 85 #[.int .u8 b] w fun e w'=>e=.returned (.int .i64 (cls b))∧w=w':=by
  go_enter Tryz.func85,Tryz.ntmps85
  go_wp2
  all_goals (try go_ret)
  all_goals (refine ⟨ret_int ?_,rfl⟩;(try simp only [beq_iff_eq,beq_eq_false_iff_ne,ne_eq] at *);unfold cls;(repeat (first | rw [if_pos (by omega)] | rw [if_neg (by omega)])))
def strs (l:List ByteArray):List Value:=l.map .string
theorem Rd.strAt {B:Nat} {w:World} {a:Option Addr} {n cap:Nat} {l:List ByteArray} (h:Rd B w a n cap 1 (strs l)) (k:Nat) (hk:k<n):
    ∃ b o,a=some ⟨b,o,none⟩∧∃ hl:k<l.length,w.cell? ⟨b,o+k,none⟩=some (.string l[k]):=by
  obtain ⟨h1,h2,h3,h4⟩:=h
  rcases h4 with h4 | ⟨b,o,ha,hbB,hc⟩
  · omega
  · have hl:k<l.length:=by simp [strs] at h1;omega
    refine ⟨b,o,ha,hl,?_⟩;rw [hc k (by simpa [strs] using hl)]
    simp [strs]
theorem Rd.strLen {B:Nat} {w:World} {a:Option Addr} {n cap:Nat} {l:List ByteArray} (h:Rd B w a n cap 1 (strs l)):l.length=n:=by
  have :=h.1;simp [strs] at this;exact this
theorem index_str {B n cap:Nat} {a:Option Addr} {l:List ByteArray} (s:ByteArray) (w:World) (h:Rd B w a n cap 1 (strs l)):
    Calls Tryz.prog 68 #[.slice a n cap,.string s] w fun e w'=>e=.returned (.int .i64 (idxI l s))∧w=w':=by
  have hcap:=h.2.1;have hm:=h.2.2.1;have hlen:=h.strLen;have H:=zz h;have HL:=zz hlen;clear h hlen;go_enter Tryz.func68,Tryz.ntmps68
  go_wp2
  go_loop [5,8] (fun _ i=>∃ k:Nat,k≤n∧i=.int .i64 k∧Hid (∀ (j:Nat) (hj:j<l.length),j<k→(s==l[j])=false)) (fun _ i=>n - (intOf i).toNat)
  case atStart=>exact ⟨0,Nat.zero_le _,rfl,fun j hj h0=>by omega⟩
  case round=>
    obtain ⟨k,hk,rfl,Hn⟩:=hrel
    by_cases hlt:k<n
    · obtain ⟨b,o,rfl,hl,hc⟩:=H.out.strAt k hlt
      go_wp2
      · go_ret
        exact ⟨ret_int (idxI_at l s k hl ‹_› Hn.out).symm,rfl⟩
      · go_round
        case rel=>exact ⟨k+1,by omega,by go_num,fun j hj h1=>by rename_i hx;rcases Nat.lt_or_ge j k with h2 | h2;(exact Hn.out j hj h2);(obtain rfl:j=k:=by omega);exact hx⟩
        case measure=>simp [intOf];omega
    · go_wp2
      go_ret
      exact ⟨ret_int (idxI_no l s fun j hj=>Hn.out j hj (by have :=HL.out;omega)).symm,rfl⟩
theorem contains_str {B n cap:Nat} {a:Option Addr} {l:List ByteArray} (s:ByteArray) (w:World) (h:Rd B w a n cap 1 (strs l)):
    Calls Tryz.prog 32 #[.slice a n cap,.string s] w fun e w'=>e=.returned (.bool (l.any (s== ·)))∧w=w':=by
  have H:=zz h;clear h;have HG:=zz (idxI_ge l s);go_enter Tryz.func32,Tryz.ntmps32
  go_wp2_with (go_at_call 68;refine (index_str s _ H.out).mono ?_;rintro e w' ⟨rfl,rfl⟩)
  go_ret;exact ⟨ret_bool HG.out,rfl⟩
end
end Go.Proofs.YtcoiagfeoonpbaaGreat
