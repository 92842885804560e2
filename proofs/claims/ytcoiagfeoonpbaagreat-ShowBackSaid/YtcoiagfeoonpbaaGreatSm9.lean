/-
  The parser's model: more fuel reads the same; what stands in a row is read in steps. Plain laws. No condition.
-/
import Derived.Test.YtcoiagfeoonpbaaGreatSm8
set_option maxHeartbeats 20000000
set_option maxRecDepth 100000
namespace Go.Proofs.YtcoiagfeoonpbaaGreat
section
section
variable {ts:List Tk}
theorem andT_up {x x':Option Rd1} {F G:Ex→Nat→Option Rd1} (h1:∀ r,x=some r→x'=some r) (h2:∀ e i r,F e i=some r→G e i=some r):∀ r,andT x F=some r→andT x' G=some r:=by
  intro r h
  cases x with
  | none=>cases h
  | some y =>
    rw [h1 y rfl]
    cases y with
    | ok e i=>exact h2 _ _ _ h
    | bad l c=>exact h
theorem takeT_up {i:Nat} {k:Int} {s:ByteArray} {F G:Option Rd1} (h:∀ r,F=some r→G=some r):∀ r,takeT ts i k s F=some r→takeT ts i k s G=some r:=by
  intro r h';unfold takeT at h' ⊢
  split at h'
  · rename_i hc;rw [if_pos hc];exact h r h'
  · rename_i hc;rw [if_neg hc];exact h'
theorem ite_up {c:Prop} [Decidable c] {a b a' b':Option Rd1} (h1:∀ r,a=some r→a'=some r) (h2:∀ r,b=some r→b'=some r):∀ r,(if c then a else b)=some r→(if c then a' else b')=some r:=by
  intro r h
  split at h
  · rename_i hc;rw [if_pos hc];exact h1 r h
  · rename_i hc;rw [if_neg hc];exact h2 r h
theorem same_up {a:Option Rd1} :∀ r,a=some r→a=some r:=fun _ h=>h
theorem readE_up:∀ (f g:Nat) (nt:Nt) (i deep:Nat),f≤g→∀ r,readE ts f nt i deep=some r→readE ts g nt i deep=some r:=by
  intro f
  induction f with
  | zero=>intro g nt i deep _ r h;rw [readE] at h;cases h
  | succ f ih =>
    intro g nt i deep hfg r h;obtain ⟨g,rfl⟩:∃ k,g=k+1:=⟨g - 1,by omega⟩
    have I:∀ nt i deep r,readE ts f nt i deep=some r→readE ts g nt i deep=some r:=fun nt i deep r=>ih g nt i deep (by omega) r
    cases nt with
    | expr =>
      rw [readE] at h ⊢;exact ite_up (ite_up same_up (ite_up same_up (ite_up (takeT_up (andT_up (I _ _ _) fun _ _ _ h=>h)) (takeT_up (andT_up (I _ _ _) fun _ _=>takeT_up (andT_up (I _ _ _) fun _ _ _ h=>h)))))) (ite_up (ite_up same_up (andT_up (I _ _ _) fun _ _=>takeT_up (andT_up (I _ _ _) fun _ _=>takeT_up (andT_up (I _ _ _) fun _ _ _ h=>h)))) (I _ _ _)) r h
    | or =>
      rw [readE] at h ⊢;exact andT_up (I _ _ _) (fun _ _=>ite_up (andT_up (I _ _ _) fun _ _ _ h=>h) same_up) r h
    | left rank =>
      rw [readE] at h ⊢;exact ite_up (andT_up (I _ _ _) fun _ _=>I _ _ _) (andT_up (I _ _ _) fun _ _=>I _ _ _) r h
    | more rank e =>
      rw [readE] at h ⊢;exact ite_up (andT_up (I _ _ _) fun _ _=>ite_up same_up (I _ _ _)) same_up r h
    | apps l =>
      rw [readE] at h ⊢;exact ite_up (andT_up (I _ _ _) fun _ _=>I _ _ _) same_up r h
    | atom =>
      rw [readE] at h ⊢
      cases hp:plainE (nowT ts i) with
      | some e=>rw [hp] at h;exact h
      | none =>
        rw [hp] at h;exact ite_up (ite_up same_up (andT_up (I _ _ _) fun _ _=>takeT_up same_up)) same_up r h
    | pat =>
      rw [readE] at h ⊢;refine ite_up same_up (fun r h=>?_) r h
      cases hp:plainE (nowT ts i) with
      | some e=>rw [hp] at h;exact h
      | none =>
        rw [hp] at h;exact ite_up (ite_up same_up (ite_up (andT_up (I _ _ _) fun _ _=>I _ _ _) (andT_up (I _ _ _) fun _ _=>takeT_up same_up))) same_up r h
    | pats l =>
      rw [readE] at h ⊢
      first
        | exact ite_up (andT_up (I _ _ _) fun _ _=>I _ _ _) (takeT_up same_up) r h
        | exact ite_up same_up (andT_up (I _ _ _) fun _ _=>I _ _ _) r h
        | exact ite_up (takeT_up same_up) (andT_up (I _ _ _) fun _ _=>I _ _ _) r h
end
section
variable (ts:List Tk)
def ExS (i j deep:Nat) (e:Ex):Prop:=∃ e' g,SamE false e e'∧readE ts g .expr i deep=some (.ok e' j)
def OrS (i j deep:Nat) (e:Ex):Prop:=∃ e' g,SamE false e e'∧readE ts g .or i deep=some (.ok e' j)
def Lft (r i j deep:Nat) (e:Ex):Prop:=∃ e' g,SamE false e e'∧readE ts g (.left r) i deep=some (.ok e' j)
def AtS (i j deep:Nat) (e:Ex):Prop:=∃ e' g,SamE false e e'∧readE ts g .atom i deep=some (.ok e' j)
def Chn (r i j deep:Nat) (e:Ex):Prop:=∃ e',SamE false e e'∧∀ f R,readE ts f (.more r e') j deep=some R→∃ g,readE ts g (.left r) i deep=some R
def AtL:Nat→Nat→Nat→List Ex→Prop
  | i,j,_,[]=>i=j
  | i,j,deep,x::xs=>∃ m,AtS ts i m deep x∧startsE (nowT ts i)=true∧AtL m j deep xs
def NoOp (t:Tk) (r:Nat):Prop:= ¬(t.k=6∧r≤bindsE t.s)
end
section
variable {ts:List Tk} {i j m deep r:Nat} {e x y z:Ex}
theorem NoOp.le {t:Tk} {r r':Nat} (h:NoOp t r) (hr:r≤r'):NoOp t r':=fun h'=>h ⟨h'.1,Nat.le_trans hr h'.2⟩
theorem lft_chn (hr:r≤4) (h:Lft ts (r+1) i j deep e):Chn ts r i j deep e:=by
  obtain ⟨e',g,hs,hg⟩:=h;refine ⟨e',hs,fun f R hR=>⟨max f g+1,?_⟩⟩;rw [readE,if_neg (by omega),readE_up _ _ _ _ _ (Nat.le_max_right f g) _ hg];exact readE_up _ _ _ _ _ (Nat.le_max_left f g) _ hR
theorem chn_lft (h:Chn ts r i j deep e) (hn: ¬((nowT ts j).k=6∧bindsE (nowT ts j).s=r)):Lft ts r i j deep e:=by
  obtain ⟨e',hs,hc⟩:=h;obtain ⟨g,hg⟩:=hc 1 (.ok e' j) (by rw [readE];exact if_neg hn);exact ⟨e',g,hs,hg⟩
theorem lft_down (h:Lft ts (r+1) i j deep e) (hr:r≤4) (hn:NoOp (nowT ts j) r):Lft ts r i j deep e:=
  chn_lft (lft_chn hr h) fun h=>hn ⟨h.1,Nat.le_of_eq h.2.symm⟩
theorem lft_to (h:Lft ts 5 i j deep e) (hr:r≤5) (hn:NoOp (nowT ts j) r):Lft ts r i j deep e:=by
  by_cases h5:r=5
  · subst h5;exact h
  · have h4:=lft_down (r:=4) h (by omega) (hn.le (by omega))
    by_cases e4:r=4
    · subst e4;exact h4
    · have h3:=lft_down (r:=3) h4 (by omega) (hn.le (by omega))
      by_cases e3:r=3
      · subst e3;exact h3
      · have h2:=lft_down (r:=2) h3 (by omega) (hn.le (by omega))
        by_cases e2:r=2
        · subst e2;exact h2
        · have h1:=lft_down (r:=1) h2 (by omega) (hn.le (by omega))
          by_cases e1:r=1
          · subst e1;exact h1
          · obtain rfl:r=0:=by omega
            exact lft_down (r:=0) h1 (by omega) hn
theorem lft_from (h:Lft ts m i j deep e) (hm:m≤5) (hr:r≤m) (hn:NoOp (nowT ts j) r):Lft ts r i j deep e:=by
  obtain ⟨d,hd⟩:∃ d,m=r+d:=⟨m - r,by omega⟩;subst hd
  induction d with
  | zero=>exact h
  | succ d ih=>exact ih (lft_down (r:=r+d) h (by omega) (hn.le (by omega))) (by omega) (by omega)
theorem sam2 {k:Int} {s:ByteArray} {x y x' y':Ex} {l c l' c':Int} (hx:SamE false x x') (hy:SamE false y y'):SamE false (.mk k s 0 [x,y] l c) (.mk k s 0 [x',y'] l' c'):=mkS (.cons hx (.cons hy .nil))
theorem op_chn {s:ByteArray} {l c:Int} (hr:r=3∨r=4) (hx:Chn ts r i j deep x) (ht:(nowT ts j).k=6∧(nowT ts j).s=s) (hb:bindsE s=r) (hy:Lft ts (r+1) (j+1) m deep y):Chn ts r i m deep (.mk 5 s 0 [x,y] l c):=by
  obtain ⟨x',hsx,hcx⟩:=hx;obtain ⟨y',g,hsy,hgy⟩:=hy;refine ⟨.mk 5 s 0 [x',y'] (nowT ts j).l (nowT ts j).c,sam2 hsx hsy,fun f R hR=>hcx (max f g+1) R ?_⟩;rw [readE]
  show (if (nowT ts j).k=6∧bindsE (nowT ts j).s=r then _ else _)=_
  rw [if_pos ⟨ht.1,by rw [ht.2];exact hb⟩,readE_up _ _ _ _ _ (Nat.le_max_right f g) _ hgy]
  show (if r=2 then _ else _)=_
  rw [if_neg (by omega),ht.2];exact readE_up _ _ _ _ _ (Nat.le_max_left f g) _ hR
theorem op_lft2 {s:ByteArray} {l c:Int} (hx:Chn ts 2 i j deep x) (ht:(nowT ts j).k=6∧(nowT ts j).s=s) (hb:bindsE s=2) (hy:Lft ts 3 (j+1) m deep y):Lft ts 2 i m deep (.mk 5 s 0 [x,y] l c):=by
  obtain ⟨x',hsx,hcx⟩:=hx;obtain ⟨y',g,hsy,hgy⟩:=hy
  obtain ⟨g',hg'⟩:=hcx (g+1) (.ok (.mk 5 s 0 [x',y'] (nowT ts j).l (nowT ts j).c) m) (by
    rw [readE]
    show (if (nowT ts j).k=6∧bindsE (nowT ts j).s=2 then _ else _)=_
    rw [if_pos ⟨ht.1,by rw [ht.2];exact hb⟩,hgy]
    simp only [andT,if_true,ht.2])
  exact ⟨_,g',sam2 hsx hsy,hg'⟩
theorem or1 {l c:Int} (hx:Lft ts 2 i j deep x) (ht:isT ts j 6 wOr=true) (hy:OrS ts (j+1) m deep y):OrS ts i m deep (.mk 5 wOr 0 [x,y] l c):=by
  obtain ⟨x',f,hsx,hfx⟩:=hx;obtain ⟨y',g,hsy,hgy⟩:=hy;refine ⟨.mk 5 wOr 0 [x',y'] (nowT ts j).l (nowT ts j).c,max f g+1,sam2 hsx hsy,?_⟩;rw [readE,readE_up _ _ _ _ _ (Nat.le_max_left f g) _ hfx]
  show (if isT ts j 6 wOr=true then _ else _)=_
  rw [if_pos ht,readE_up _ _ _ _ _ (Nat.le_max_right f g) _ hgy]
  rfl
theorem or0 (hx:Lft ts 2 i j deep x) (ht:isT ts j 6 wOr=false):OrS ts i j deep x:=by
  obtain ⟨x',f,hsx,hfx⟩:=hx;refine ⟨x',f+1,hsx,?_⟩;rw [readE,hfx]
  show (if isT ts j 6 wOr=true then _ else _)=_
  rw [if_neg (by rw [ht];decide)]
theorem ex0 (hx:OrS ts i j deep x) (h1:isT ts i 5 wLet=false) (h2:isT ts i 5 wIf=false):ExS ts i j deep x:=by
  obtain ⟨x',f,hsx,hfx⟩:=hx;refine ⟨x',f+1,hsx,?_⟩;rw [readE];simp only [h1,h2];exact hfx
theorem at_lft5 (hx:AtS ts i j deep x) (hs:startsE (nowT ts j)=false):Lft ts 5 i j deep x:=by
  obtain ⟨x',f,hsx,hfx⟩:=hx
  obtain ⟨f,rfl⟩:∃ k,f=k+1:=by
    cases f with
    | zero=>rw [readE] at hfx;cases hfx
    | succ k=>exact ⟨k,rfl⟩
  refine ⟨x',f+2,hsx,?_⟩;rw [readE,if_pos (by decide),hfx]
  show readE ts (f+1) (.apps [x']) j deep=_
  rw [readE,if_neg (by rw [hs];decide)]
  rfl
theorem apps_read:∀ (xs:List Ex) (i j deep:Nat),AtL ts i j deep xs→startsE (nowT ts j)=false→∃ xs' g,All2 (SamE false) xs xs'∧∀ l,readE ts g (.apps l) i deep=some (.ok (appE (l++xs')) j)
  | [], i, j, deep, h, hs => by
    obtain rfl:i=j:=h;exact ⟨[],1,.nil,fun l=>by rw [readE,if_neg (by rw [hs];decide),List.append_nil]⟩
  | x :: xs, i, j, deep, ⟨m, ⟨x', f, hsx, hfx⟩, hst, hr⟩, hs => by
    obtain ⟨xs',g,ha,hg⟩:=apps_read xs m j deep hr hs;refine ⟨x'::xs',max f g+1,.cons hsx ha,fun l=>?_⟩;rw [readE,if_pos hst,readE_up _ _ _ _ _ (Nat.le_max_left f g) _ hfx]
    show readE ts (max f g) (.apps (l++[x'])) m deep=_
    rw [readE_up _ _ _ _ _ (Nat.le_max_right f g) _ (hg (l++[x']))]
    simp
theorem app_lft5 {xs:List Ex} {l c:Int} (hx:AtS ts i m deep x) (hxs:AtL ts m j deep xs) (hn:xs≠[]) (hs:startsE (nowT ts j)=false):Lft ts 5 i j deep (.mk 4 .empty 0 (x::xs) l c):=by
  obtain ⟨x',f,hsx,hfx⟩:=hx;obtain ⟨xs',g,ha,hg⟩:=apps_read xs m j deep hxs hs
  have hn':xs'≠[]:=fun e=>by
    have :=ha.len;rw [e] at this;exact hn (List.eq_nil_of_length_eq_zero this)
  have he:appE ([x']++xs')=.mk 4 .empty 0 (x'::xs') x'.line x'.col:=by
    cases xs' with
    | nil=>exact absurd rfl hn'
    | cons y ys=>rfl
  refine ⟨.mk 4 .empty 0 (x'::xs') x'.line x'.col,max f g+1,mkS (.cons hsx ha),?_⟩;rw [readE,if_pos (by decide),readE_up _ _ _ _ _ (Nat.le_max_left f g) _ hfx]
  show readE ts (max f g) (.apps [x']) m deep=_
  rw [readE_up _ _ _ _ _ (Nat.le_max_right f g) _ (hg [x']),he]
theorem at_brack (h0:(nowT ts i).k=6∧(nowT ts i).s=wOpen) (hd:deep<40) (hx:ExS ts (i+1) j (deep+1) x) (h1:(nowT ts j).k=6∧(nowT ts j).s=wClose):AtS ts i (j+1) deep x:=by
  obtain ⟨x',f,hsx,hfx⟩:=hx;refine ⟨x',f+1,hsx,?_⟩
  have hp:plainE (nowT ts i)=none:=by unfold plainE;rw [h0.1];rfl
  have o:isT ts i 6 wOpen=true:=by unfold isT;rw [decide_eq_true h0.1,decide_eq_true h0.2];rfl
  have c:isT ts j 6 wClose=true:=by unfold isT;rw [decide_eq_true h1.1,decide_eq_true h1.2];rfl
  rw [readE,hp]
  show (if isT ts i 6 wOpen=true then _ else _)=_
  rw [if_pos o,if_neg (by omega),hfx]
  show takeT ts j 6 wClose _=_
  unfold takeT;rw [if_pos c]
theorem ex_if {l c:Int} (h0:(nowT ts i).k=5∧(nowT ts i).s=wIf) (hd:deep<40) {j1 j2 j3:Nat} (hx:ExS ts (i+1) j1 (deep+1) x) (h1:(nowT ts j1).k=5∧(nowT ts j1).s=wThen) (hy:ExS ts (j1+1) j2 (deep+1) y) (h2:(nowT ts j2).k=5∧(nowT ts j2).s=wElse) (hz:ExS ts (j2+1) j3 (deep+1) z):
    ExS ts i j3 deep (.mk 6 .empty 0 [x,y,z] l c):=by
  obtain ⟨x',f,hsx,hfx⟩:=hx;obtain ⟨y',g,hsy,hgy⟩:=hy;obtain ⟨z',k,hsz,hkz⟩:=hz
  have T:∀ {i:Nat} {k:Int} {s:ByteArray},(nowT ts i).k=k∧(nowT ts i).s=s→isT ts i k s=true:=fun h=>by unfold isT;rw [decide_eq_true h.1,decide_eq_true h.2];rfl
  have nl:isT ts i 5 wLet=false:=by unfold isT;rw [h0.2,decide_eq_false (by decide: ¬wIf=wLet),Bool.and_false]
  refine ⟨.mk 6 .empty 0 [x',y',z'] (nowT ts i).l (nowT ts i).c,max f (max g k)+1,mkS (.cons hsx (.cons hsy (.cons hsz .nil))),?_⟩;rw [readE];simp only [nl,T h0,if_true,Bool.false_eq_true,if_false];rw [if_neg (by omega),readE_up _ _ _ _ _ (by omega:f≤max f (max g k)) _ hfx]
  show takeT ts j1 5 wThen _=_
  unfold takeT;rw [if_pos (T h1),readE_up _ _ _ _ _ (by omega:g≤max f (max g k)) _ hgy]
  show (if isT ts j2 5 wElse=true then _ else _)=_
  rw [if_pos (T h2),readE_up _ _ _ _ _ (by omega:k≤max f (max g k)) _ hkz]
  rfl
theorem ex_let {s:ByteArray} {l c:Int} (h0:(nowT ts i).k=5∧(nowT ts i).s=wLet) (hd:deep<40) (hn:(nowT ts (i+1)).k=2∧(nowT ts (i+1)).s=s) (he:(nowT ts (i+2)).k=6∧(nowT ts (i+2)).s=wEq) {j1 j2:Nat} (hx:ExS ts (i+3) j1 (deep+1) x) (h1:(nowT ts j1).k=5∧(nowT ts j1).s=wIn) (hy:ExS ts (j1+1) j2 (deep+1) y):
    ExS ts i j2 deep (.mk 7 s 0 [x,y] l c):=by
  obtain ⟨x',f,hsx,hfx⟩:=hx;obtain ⟨y',g,hsy,hgy⟩:=hy
  have T:∀ {i:Nat} {k:Int} {s:ByteArray},(nowT ts i).k=k∧(nowT ts i).s=s→isT ts i k s=true:=fun h=>by unfold isT;rw [decide_eq_true h.1,decide_eq_true h.2];rfl
  have nf:isT ts (i+2) 5 wFree=false:=by unfold isT;rw [he.1];rfl
  refine ⟨.mk 7 s 0 [x',y'] (nowT ts i).l (nowT ts i).c,max f g+1,sam2 hsx hsy,?_⟩;rw [readE];simp only [T h0,if_true];rw [if_neg (by omega),if_neg (by rw [hn.1];simp),if_neg (by rw [nf];decide)];unfold takeT;rw [if_pos (T he),readE_up _ _ _ _ _ (Nat.le_max_left f g) _ hfx]
  show (if isT ts j1 5 wIn=true then _ else _)=_
  rw [if_pos (T h1),readE_up _ _ _ _ _ (Nat.le_max_right f g) _ hgy,hn.2]
  rfl
theorem ex_free {s:ByteArray} {l c:Int} (h0:(nowT ts i).k=5∧(nowT ts i).s=wLet) (hd:deep<40) (hn:(nowT ts (i+1)).k=2∧(nowT ts (i+1)).s=s) (he:(nowT ts (i+2)).k=5∧(nowT ts (i+2)).s=wFree) (h1:(nowT ts (i+3)).k=5∧(nowT ts (i+3)).s=wIn) (hx:ExS ts (i+4) j (deep+1) x):
    ExS ts i j deep (.mk 8 s 0 [x] l c):=by
  obtain ⟨x',f,hsx,hfx⟩:=hx
  have T:∀ {i:Nat} {k:Int} {s:ByteArray},(nowT ts i).k=k∧(nowT ts i).s=s→isT ts i k s=true:=fun h=>by unfold isT;rw [decide_eq_true h.1,decide_eq_true h.2];rfl
  refine ⟨.mk 8 s 0 [x'] (nowT ts i).l (nowT ts i).c,f+1,mkS (.cons hsx .nil),?_⟩;rw [readE];simp only [T h0,if_true];rw [if_neg (by omega),if_neg (by rw [hn.1];simp),if_pos (T he)];unfold takeT;rw [if_pos (T h1),hfx,hn.2]
  rfl
end
end
end Go.Proofs.YtcoiagfeoonpbaaGreat
