/-
  Expressions that are alike, places aside or not. Plain. No condition.
-/
import Derived.Test.YtcoiagfeoonpbaaGreatMp2
import Derived.Test.YtcoiagfeoonpbaaGreatMp3
set_option maxHeartbeats 20000000
set_option maxRecDepth 100000
namespace Go.Proofs.YtcoiagfeoonpbaaGreat
section
inductive SamE (p:Bool):Ex→Ex→Prop
  | mk (k:Int) (s:ByteArray) (n:Int) (xs ys:List Ex) (l c l' c':Int) (hl:xs.length=ys.length) (ha:∀ i (h1:i<xs.length) (h2:i<ys.length),SamE p xs[i] ys[i]) (hp:p=true→l=l'∧c=c'):SamE p (.mk k s n xs l c) (.mk k s n ys l' c')
theorem SamE.refl (p:Bool):∀ (m:Nat) (x:Ex),SizeOf.sizeOf x≤m→SamE p x x
  | 0,.mk k s n xs l c,h=>by simp at h
  | m + 1, .mk k s n xs l c, h => .mk k s n xs xs l c l c rfl (fun i h1 _ => SamE.refl p m xs[i] (by
      have h3:=List.sizeOf_lt_of_mem (List.getElem_mem h1)
      simp at h
      omega)) fun _=>⟨rfl,rfl⟩
end
section
def TkS (t u:Tk):Prop:=t.k=u.k∧t.s=u.s∧t.n=u.n
structure Brk (ts us:List Tk) (p:Nat):Prop where
  tk:∀ i,i<p→TkS (nowT ts i) (nowT us (i+1))
  en:(nowT ts p).k=0
  ck:(nowT us (p+1)).k=6
  cs:(nowT us (p+1)).s=wClose
section
variable {ts us:List Tk} {p:Nat}
theorem Brk.is (H:Brk ts us p) {i:Nat} {k:Int} {s:ByteArray} (h:isT ts i k s=true) (e:k≠0) (g:i≤p):i<p∧isT us (i+1) k s=true:=by
  have f:=isT_ne H.en h e
  have a:i<p:=by omega
  obtain ⟨b,d,_⟩:=H.tk i a;unfold isT at h ⊢;rw [←b, ←d];exact ⟨a,h⟩
theorem Brk.no (H:Brk ts us p) {i:Nat} {k:Int} {s:ByteArray} (h:isT ts i k s=false) (g:i≤p) (f: ¬(k=6∧s=wClose)):isT us (i+1) k s=false:=by
  by_cases d:i<p
  · obtain ⟨b,a,_⟩:=H.tk i d
    unfold isT at h ⊢;rw [←b, ←a];exact h
  · obtain rfl:i=p:=by omega
    unfold isT;rw [H.ck,H.cs,Bool.and_eq_false_iff]
    by_cases e:k=6
    · right
      rw [decide_eq_false_iff_not]
      exact fun a=>f ⟨e,a.symm⟩
    · left
      rw [decide_eq_false_iff_not]
      exact fun a=>e a.symm
end
inductive NtS:Nt→Nt→Prop
  | expr:NtS .expr .expr
  | or:NtS .or .or
  | left (r:Nat) (h:1≤r):NtS (.left r) (.left r)
  | more (r:Nat) (h:1≤r) {x y:Ex} (hx:SamE false x y):NtS (.more r x) (.more r y)
  | apps {l m:List Ex} (h:All2 (SamE false) l m):NtS (.apps l) (.apps m)
  | atom:NtS .atom .atom
def SimE (Z:Prop) (x:Ex) (j:Nat) (r:Option Rd1):Prop:=(∃ y,r=some (.ok y (j+1))∧SamE false x y)∨((∃ l c,r=some (.bad l c))∧Z)
theorem SimE.and {Z:Prop} {x z:Ex} {k j:Nat} {Y:Option Rd1} {G:Ex→Nat→Option Rd1} (h:SimE Z x k Y) (b:∀ y,SamE false x y→SimE Z z j (G y (k+1))):SimE Z z j (andT Y G):=by
  rcases h with ⟨y,e,d⟩ | ⟨⟨l,c,a⟩,f⟩
  · rw [e];exact b y d
  · rw [a];exact .inr ⟨⟨l,c,rfl⟩,f⟩
end
section
structure Sh (ts us:List Tk) (o p:Nat):Prop where
  tk:∀ i,i<p→TkS (nowT ts i) (nowT us (o+i))
  en:(nowT ts p).k=0
  eu:(nowT us (o+p)).k=0∨(nowT us (o+p)).k=1
section
variable {ts us:List Tk} {o p:Nat}
theorem Sh.is (H:Sh ts us o p) {i:Nat} {k:Int} {s:ByteArray} (h:isT ts i k s=true) (e:k≠0) (g:i≤p):i<p∧isT us (o+i) k s=true:=by
  have f:=isT_ne H.en h e
  have a:i<p:=by omega
  obtain ⟨b,d,_⟩:=H.tk i a;unfold isT at h ⊢;rw [←b, ←d];exact ⟨a,h⟩
theorem Sh.no (H:Sh ts us o p) {i:Nat} {k:Int} {s:ByteArray} (h:isT ts i k s=false) (e:i≤p) (f:1<k):isT us (o+i) k s=false:=by
  by_cases d:i<p
  · obtain ⟨a,b,_⟩:=H.tk i d
    unfold isT at h ⊢;rw [←a, ←b];exact h
  · obtain rfl:i=p:=by omega
    unfold isT;rw [Bool.and_eq_false_iff,decide_eq_false_iff_not]
    left
    rcases H.eu with h | h <;> omega
theorem Sh.kind (H:Sh ts us o p) {i:Nat} (b:i≤p) {k:Int} (d:1<k):(nowT us (o+i)).k=k ↔ (nowT ts i).k=k:=by
  by_cases a:i<p
  · rw [←(H.tk i a).1]
  · obtain rfl:i=p:=by omega
    rw [H.en]
    rcases H.eu with h | h <;> (rw [h];try omega)
end
inductive NtT:Nt→Nt→Prop
  | expr:NtT .expr .expr
  | or:NtT .or .or
  | left (r:Nat):NtT (.left r) (.left r)
  | more (r:Nat) {x y:Ex} (hx:SamE false x y):NtT (.more r x) (.more r y)
  | apps {l m:List Ex} (h:All2 (SamE false) l m):NtT (.apps l) (.apps m)
  | atom:NtT .atom .atom
  | pat:NtT .pat .pat
  | pats {l m:List Ex} (h:All2 (SamE false) l m):NtT (.pats l) (.pats m)
def SimS (o:Nat) (x:Ex) (j:Nat) (r:Option Rd1):Prop:=∃ y,r=some (.ok y (o+j))∧SamE false x y
theorem SimS.and {o:Nat} {x z:Ex} {k j:Nat} {Y:Option Rd1} {G:Ex→Nat→Option Rd1} (h:SimS o x k Y) (a:∀ y,SamE false x y→SimS o z j (G y (o+k))):SimS o z j (andT Y G):=by
  obtain ⟨y,d,b⟩:=h;rw [d];exact a y b
end
section
def shM (o:Nat) (s:MS):MS:=⟨o+s.i,s.b⟩
def CnS (c d:Cn):Prop:=c.name=d.name∧c.types=d.types
def DaS (x y:Da):Prop:=x.name=y.name∧x.vars=y.vars∧All2 CnS x.cons y.cons
def RuS (x y:Ru):Prop:=x.name=y.name∧All2 (SamE false) x.pats y.pats∧All2 (SamE false) x.guard y.guard∧SamE false x.body y.body
section
variable {ts us:List Tk} {o p:Nat}
theorem Sh.eqT (H:Sh ts us o p) {i:Nat} {k:Int} {x:ByteArray} (a:i≤p) (b:1<k):isT us (o+i) k x=isT ts i k x:=by
  cases h:isT ts i k x with
  | true=>exact (H.is h (by omega) a).2
  | false=>exact H.no h a b
theorem Sh.eqS (H:Sh ts us o p) {s:MS} {k:Int} {x:ByteArray} (a:s.i≤p) (b:1<k):isS us (shM o s) k x=isS ts s k x:=by
  unfold isS;rw [show (shM o s).i=o+s.i from rfl,H.eqT a b]
  rfl
theorem Sh.take (H:Sh ts us o p) {s:MS} {k:Int} {x:ByteArray} (h:(takeS ts s k x).ok=true) (m:k≠0) (j:s.i≤p):takeS us (shM o s) k x=shM o (takeS ts s k x)∧(takeS ts s k x).i≤p∧s.ok=true:=by
  unfold takeS at h ⊢
  by_cases a:isS ts s k x=true
  · obtain ⟨b,d⟩:=isS_parts a
    obtain ⟨e,f⟩:=H.is d m j
    have g:isS us (shM o s) k x=true:=by unfold isS;rw [show (shM o s).i=o+s.i from rfl,f,show (shM o s).ok=s.ok from rfl,b];rfl
    rw [if_pos a,if_pos g];exact ⟨rfl,e,b⟩
  · rw [if_neg a,fail_notok] at h
    cases h
theorem Sh.name (H:Sh ts us o p) {s:MS} {k:Int} (h:(nameS ts s k).2.ok=true) (e:1<k) (d:s.i≤p):nameS us (shM o s) k=((nameS ts s k).1,shM o (nameS ts s k).2)∧(nameS ts s k).2.i≤p∧s.ok=true:=by
  unfold nameS at h ⊢
  by_cases a:(nowT ts s.i).k=k
  · have f:(nowT us (shM o s).i).k=k:=(H.kind d e).2 a
    have g:s.i≠p:=now_ne H.en (by omega);obtain ⟨_,b,_⟩:=H.tk s.i (by omega);rw [if_pos a] at h;rw [if_pos a,if_pos f];refine ⟨by rw [show (shM o s).i=o+s.i from rfl, ←b];rfl,by show s.i+1≤p;omega,h⟩
  · rw [if_neg a,fail_notok] at h
    cases h
theorem Sh.kd (H:Sh ts us o p) {s:MS} {k:Int} (a:s.i≤p) (b:1<k):decide ((nowT us (shM o s).i).k=k)=decide ((nowT ts s.i).k=k):=decide_eq_decide.2 (H.kind a b)
theorem Sh.startsS (H:Sh ts us o p) {s:MS} (a:s.i≤p):startsS us (shM o s)=startsS ts s:=by
  unfold Go.Proofs.YtcoiagfeoonpbaaGreat.startsS;rw [H.eqS a (by decide),show (shM o s).ok=s.ok from rfl,H.kd a (by decide),H.kd a (by decide)]
theorem itemsM_step {F g:Nat} :∀ (f:Nat) (ds:List Da) (rs:List Ru) (s:MS) (r:List Da × List Ru × MS),itemsM ts F g f ds rs s=some r→Step 0 s r.2.2
  | 0,ds,rs,s,r,h=>by rw [itemsM] at h;cases h
  | f + 1, ds, rs, s, r, h => by
    rw [itemsM] at h
    split at h
    · split at h
      · obtain ⟨q,h1,h2⟩:=Option.bind_eq_some_iff.1 h
        exact ((step_take (ts:=ts) s).trans ((dataM_step h1).trans (itemsM_step f _ _ _ r h2))).le (Nat.zero_le _)
      · obtain ⟨q,h1,h2⟩:=Option.bind_eq_some_iff.1 h
        exact ((step_take (ts:=ts) s).trans ((ruleM_step h1).trans (itemsM_step f _ _ _ r h2))).le (Nat.zero_le _)
    · cases h;exact Step.refl s
end
end
end Go.Proofs.YtcoiagfeoonpbaaGreat
