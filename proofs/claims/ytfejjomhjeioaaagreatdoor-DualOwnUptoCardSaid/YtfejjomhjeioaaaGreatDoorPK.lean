/-
  A part of a proof: see the last text of this claim.
-/
import Derived.Test.YtfejjomhjeioaaaGreatDoorPJ
set_option linter.unusedVariables false
set_option linter.unusedSimpArgs false
namespace Go.Sim.Kd
open Go Go.Sim
abbrev TK:=Nat → Prop
structure QM (Q:TK → List AV → Sg → Prop):Prop where
 mono:∀ {X Y:TK} {r:List AV} {S S':Sg},(∀ g,X g → Y g) → (∀ g,X g → S'.mu g=S.mu g) → Q X r S → Q Y r S'
def rowAt (sz:Nat) (cs:List AV) (i:Nat):List AV:=(cs.drop (i * sz)).take sz
def OL (sz:Nat) (Q:TK → List AV → Sg → Prop) (X:TK) (v:AV) (S:Sg):Prop :=
 v=.slice .none sz [] ∨ ∃ g len cs,v=.ms g 0 len sz ∧ X g ∧ S.mu g=some cs ∧ (cs.length=len * sz ∧ len ≤ 2 ^ 50) ∧ ∀ i,i < len → Q X (rowAt sz cs i) S
theorem OL.mono {sz:Nat} {Q:TK → List AV → Sg → Prop} (hQ:QM Q) {X Y:TK} {v:AV} {S S':Sg} (hX:∀ g,X g → Y g) (hm:∀ g,X g → S'.mu g=S.mu g) (h:OL sz Q X v S):OL sz Q Y v S':=by
 rcases h with h | ⟨g,len,cs,h1,h2,h3,h4,h5⟩
 ·exact .inl h
 exact .inr ⟨g,len,cs,h1,hX g h2,(hm g h2).trans h3,h4,fun i hi=>hQ.mono hX hm (h5 i hi)⟩
theorem OL.imp {sz:Nat} {Q Q':TK → List AV → Sg → Prop} {X:TK} {v:AV} {S:Sg} (h:OL sz Q X v S) (k:∀ r,Q X r S → Q' X r S):OL sz Q' X v S:=by
 rcases h with h | ⟨g,len,cs,h1,h2,h3,h4,h5⟩
 ·exact .inl h
 exact .inr ⟨g,len,cs,h1,h2,h3,h4,fun i hi=>k _ (h5 i hi)⟩
def IR (_:TK) (r:List AV) (_:Sg):Prop:=∃ x:Int,r=[I x]
def BR (_:TK) (r:List AV) (_:Sg):Prop:=∃ x:Bool,r=[B x]
def AR (_:TK) (r:List AV) (_:Sg):Prop:=∃ (x:Int) (b:Bool),r=[I x,B b]
theorem IR.m:QM IR:=⟨fun _ _ h=>h⟩
theorem BR.m:QM BR:=⟨fun _ _ h=>h⟩
theorem AR.m:QM AR:=⟨fun _ _ h=>h⟩
def ON:Nat → TK → List AV → Sg → Prop
 | 0,_,_,_=>False
 | n + 1,X,r,S=>∃ (op m ty:Int) (a b:AV),r=[I op,I m,I ty,a,b] ∧ OL 5 (ON n) X a S ∧
    OL 7 (fun X r S=>∃ v c r5,r=v :: c :: r5 ∧ OL 1 IR X v S ∧ OL 1 BR X c S ∧ ON n X r5 S) X b S
def OB (n:Nat) (X:TK) (r:List AV) (S:Sg):Prop:=∃ v c r5,r=v :: c :: r5 ∧ OL 1 IR X v S ∧ OL 1 BR X c S ∧ ON n X r5 S
theorem OB.of {n:Nat} (h:QM (ON n)):QM (OB n):=⟨fun hX hm ⟨v,c,r5,e,h1,h2,h3⟩=>⟨v,c,r5,e,h1.mono IR.m hX hm,h2.mono BR.m hX hm,h.mono hX hm h3⟩⟩
theorem ON.m:∀ n,QM (ON n)
 | 0=>⟨fun _ _ h=>h⟩
 | n + 1=>⟨fun hX hm ⟨op,m,ty,a,b,e,h1,h2⟩=>⟨op,m,ty,a,b,e,h1.mono (ON.m n) hX hm,OL.mono (OB.of (ON.m n)) hX hm h2⟩⟩
theorem OB.m (n:Nat):QM (OB n):=OB.of (ON.m n)
theorem ON.up:∀ {n m:Nat} {X:TK} {r:List AV} {S:Sg},ON n X r S → n ≤ m → ON m X r S
 | 0,_,_,_,_,h,_=>h.elim
 | n + 1,0,_,_,_,h,k=>absurd k (by omega)
 | n + 1,m + 1,X,r,S,⟨op,mm,ty,a,b,e,h1,h2⟩,k=>⟨op,mm,ty,a,b,e,h1.imp fun r h=>ON.up h (by omega),h2.imp fun r ⟨v,c,r5,e,q1,q2,q3⟩=>⟨v,c,r5,e,q1,q2,ON.up q3 (by omega)⟩⟩
theorem ON.mk {n:Nat} {X:TK} {S:Sg} {op m ty:Int} {a b:AV} (h1:OL 5 (ON n) X a S) (h2:OL 7 (OB n) X b S):ON (n + 1) X [I op,I m,I ty,a,b] S:=⟨op,m,ty,a,b,rfl,h1,h2⟩
def OX (X:TK) (r:List AV) (S:Sg):Prop:=∃ (nm:ByteArray) (a:AV),r=[Str nm,a] ∧ OL 2 AR X a S
def OD (X:TK) (r:List AV) (S:Sg):Prop:=∃ (nm:ByteArray) (b:Bool) (a:AV),r=[Str nm,B b,a] ∧ OL 2 OX X a S
def OF (X:TK) (r:List AV) (S:Sg):Prop:=∃ (nm:ByteArray) (a v:AV) (r5:List AV) (n:Nat),r=Str nm :: a :: v :: r5 ∧ OL 2 AR X a S ∧ OL 1 IR X v S ∧ ON n X r5 S
theorem OX.m:QM OX:=⟨fun hX hm ⟨nm,a,e,h⟩=>⟨nm,a,e,h.mono AR.m hX hm⟩⟩
theorem OD.m:QM OD:=⟨fun hX hm ⟨nm,b,a,e,h⟩=>⟨nm,b,a,e,h.mono OX.m hX hm⟩⟩
theorem OF.m:QM OF:=⟨fun hX hm ⟨nm,a,v,r5,n,e,h1,h2,h3⟩=>⟨nm,a,v,r5,n,e,h1.mono AR.m hX hm,h2.mono IR.m hX hm,(ON.m n).mono hX hm h3⟩⟩
def mkX (b:Nat) (S:Sg):TK:=fun t=>b ≤ t ∧ t < S.mn
def AccO (sz b:Nat) (Q:TK → List AV → Sg → Prop) (out:AV) (n:Nat) (S:Sg):Prop :=
 (n=0 ∧ out=.slice .full sz []) ∨ ∃ g cs,out=.ms g 0 n sz ∧ b ≤ g ∧ g < S.mn ∧ S.mu g=some cs ∧ cs.length=n * sz ∧ ∀ i,i < n → Q (fun t=>b ≤ t ∧ t < g) (rowAt sz cs i) S
theorem AccO.mono {sz b n:Nat} {Q:TK → List AV → Sg → Prop} (hQ:QM Q) {out:AV} {S S':Sg} (h:AccO sz b Q out n S) (hm:∀ t,b ≤ t → t < S.mn → S'.mu t=S.mu t) (hn:S.mn ≤ S'.mn):AccO sz b Q out n S':=by
 rcases h with h | ⟨g,cs,h1,h2,h3,h4,h5,h6⟩
 ·exact .inl h
 exact .inr ⟨g,cs,h1,h2,by omega,(hm g h2 h3).trans h4,h5,fun i hi=>hQ.mono (fun _ h=>h) (fun t ht=>hm t ht.1 (by omega)) (h6 i hi)⟩
theorem rowAt_app {sz n i:Nat} {cs r:List AV} (hl:cs.length=n * sz) (hr:r.length=sz) (hi:i < n + 1):rowAt sz (cs ++ r) i=if i=n then r else rowAt sz cs i:=by
 unfold rowAt
 by_cases e:i=n
 ·subst e
  rw [if_pos rfl,← hl,List.drop_left,List.take_of_length_le (by omega)]
 rw [if_neg e]
 have h1:(i + 1) * sz ≤ n * sz:=Nat.mul_le_mul_right _ (by omega)
 rw [Nat.succ_mul] at h1
 rw [List.drop_append_of_le_length (by omega),List.take_append_of_le_length (by rw [List.length_drop];omega)]
theorem appm_t {S0 S1 S:Sg} {sz by_ n:Nat} {Q:TK → List AV → Sg → Prop} (hQ:QM Q) {out v:AV} {r:List AV} (hA:AccO sz S0.mn Q out n S1) (hE0:ExtM S0 S1) (hE:ExtM S1 S) (hr:Q (mkX S1.mn S) r S) (hl:r.length=sz) (hs:0 < sz) (hby:(n + 1) * by_ ≤ 2 ^ 47) (hv:v.cells=r) :
 ∃ out' S',wopOf (.appm sz by_) S [out,.slice .full sz [v]]=some (out',S') ∧ AccO sz S0.mn Q out' (n + 1) S' ∧ ExtM S0 S':=by
 have hsrc:srcOf sz S (.slice .full sz [v])=some (1,r):=by
  simp only [srcOf,if_true,List.length_cons,List.length_nil,flat,List.flatMap_cons,List.flatMap_nil,hv,List.append_nil]
 have hEE:=hE0.trans hE
 have h01:=hE0.mn
 have h1s:=hE.mn
 rcases hA with ⟨rfl,rfl⟩ | ⟨g,cs,rfl,h2,h3,h4,h5,h6⟩
 ·refine ⟨.ms S.mn 0 1 sz,{ S with mu:=upd S.mu S.mn (some r),mn:=S.mn + 1 },?_,.inr ⟨S.mn,r,rfl,by omega,Nat.lt_succ_self _,upd_same _ _ _,by omega,fun i hi=>?_⟩,⟨⟨hEE.e.nx,hEE.e.ob,hEE.e.gn,hEE.e.gl,hEE.e.Q⟩,fun k hk=>?_,Nat.le_succ_of_le hEE.mn⟩⟩
  ·simp only [wopOf,nilS,appmOf,if_true,hsrc,Obs]
   rw [if_pos (by omega),if_neg (by decide)]
  ·obtain rfl:i=0:=by omega
   rw [show rowAt sz r 0=r by simp only [rowAt,Nat.zero_mul,List.drop_zero];exact List.take_of_length_le (by omega)]
   exact hQ.mono (fun t ht=>⟨by have:=ht.1;omega,ht.2⟩) (fun t ht=>upd_ne _ _ (by have:=ht.2;omega)) hr
  show upd S.mu S.mn _ k=_
  rw [upd_ne _ _ (by omega)]
  exact hEE.mu k hk
 have hgs:S.mu g=some cs:=(hE.mu g h3).trans h4
 have hu:∀ t,t ≠ g → t ≠ S.mn → upd (upd S.mu g none) S.mn (some (cs ++ r)) t=S.mu t:=fun t a b=>by rw [upd_ne _ _ b,upd_ne _ _ a]
 refine ⟨.ms S.mn 0 (n + 1) sz,{ S with mu:=upd (upd S.mu g none) S.mn (some (cs ++ r)),mn:=S.mn + 1 },?_,.inr ⟨S.mn,cs ++ r,rfl,by omega,Nat.lt_succ_self _,upd_same _ _ _,by rw [List.length_append,h5,hl,Nat.succ_mul],fun i hi=>?_⟩,⟨⟨hEE.e.nx,hEE.e.ob,hEE.e.gn,hEE.e.gl,hEE.e.Q⟩,fun k hk=>?_,Nat.le_succ_of_le hEE.mn⟩⟩
 ·simp only [wopOf,nilS,appmOf]
  rw [if_pos (by simp),hsrc]
  simp only [Obs,hgs]
  rw [if_pos ⟨h5,by omega⟩,if_neg (by decide)]
 ·rw [rowAt_app h5 hl hi]
  split
  ·exact hQ.mono (fun t ht=>⟨by have:=ht.1;omega,ht.2⟩) (fun t ht=>hu t (by have:=ht.1;omega) (by have:=ht.2;omega)) hr
  refine hQ.mono (S:=S1) (fun t ht=>⟨ht.1,by omega⟩) (fun t ht=>?_) (h6 i (by omega))
  exact (hu t (by omega) (by omega)).trans (hE.mu t (by omega))
 show upd (upd S.mu g none) S.mn _ k=_
 rw [hu k (by omega) (by omega)]
 exact hEE.mu k hk
theorem AccO.c1 {sz b n:Nat} {Q:TK → List AV → Sg → Prop} {out:AV} {S:Sg} (h:AccO sz b Q out n S):out.cells=[out] ∧ tipF out=true ∧ out.erT=out:=by
 rcases h with ⟨_,rfl⟩ | ⟨g,cs,rfl,_⟩ <;> exact ⟨rfl,rfl,rfl⟩
theorem OL.c1 {sz:Nat} {Q:TK → List AV → Sg → Prop} {X:TK} {v:AV} {S:Sg} (h:OL sz Q X v S):v.cells=[v] ∧ v.erT=v ∧ v.er=v:=by
 rcases h with rfl | ⟨g,len,cs,rfl,_⟩ <;> exact ⟨rfl,rfl,rfl⟩
def AccT (sz b:Nat) (Q:TK → List AV → Sg → Prop) (out:AV) (n:Nat) (S:Sg):Prop :=
 (n=0 ∧ out=.slice .none sz []) ∨ ∃ g cs,out=.ms g 0 n sz ∧ b ≤ g ∧ g < S.mn ∧ S.mu g=some cs ∧ cs.length=n * sz ∧ ∀ i,i < n → Q (fun t=>b ≤ t ∧ t < g) (rowAt sz cs i) S
theorem AccO.res {sz b n:Nat} {Q:TK → List AV → Sg → Prop} {out:AV} {S:Sg} (h:AccO sz b Q out n S):AccT sz b Q out.er n S:=by
 rcases h with ⟨h1,rfl⟩ | ⟨g,cs,rfl,h2⟩
 ·exact .inl ⟨h1,rfl⟩
 exact .inr ⟨g,cs,rfl,h2⟩
theorem AccT.mono {sz b n:Nat} {Q:TK → List AV → Sg → Prop} (hQ:QM Q) {out:AV} {S S':Sg} (h:AccT sz b Q out n S) (hE:ExtM S S'):AccT sz b Q out n S':=by
 rcases h with h | ⟨g,cs,h1,h2,h3,h4,h5,h6⟩
 ·exact .inl h
 exact .inr ⟨g,cs,h1,h2,Nat.lt_of_lt_of_le h3 hE.mn,(hE.mu g h3).trans h4,h5,fun i hi=>hQ.mono (fun _ h=>h) (fun t ht=>hE.mu t (by omega)) (h6 i hi)⟩
theorem AccT.tl {sz b c n:Nat} {Q:TK → List AV → Sg → Prop} (hQ:QM Q) {out:AV} {S:Sg} (h:AccT sz b Q out n S) (hc:c ≤ b) (hn:n ≤ 2 ^ 50):OL sz Q (mkX c S) out S:=by
 rcases h with ⟨_,rfl⟩ | ⟨g,cs,rfl,h2,h3,h4,h5,h6⟩
 ·exact .inl rfl
 exact .inr ⟨g,n,cs,rfl,⟨by omega,h3⟩,h4,⟨h5,hn⟩,fun i hi=>hQ.mono (fun t ht=>⟨by omega,by omega⟩) (fun _ _=>rfl) (h6 i hi)⟩
theorem AccT.c1 {sz b n:Nat} {Q:TK → List AV → Sg → Prop} {out:AV} {S:Sg} (h:AccT sz b Q out n S):out.cells=[out] ∧ out.erT=out ∧ out.er=out ∧ (∀ t sz xs,out ≠ .slice (.tip t) sz xs):=by
 rcases h with ⟨_,rfl⟩ | ⟨g,cs,rfl,_⟩
 ·exact ⟨rfl,rfl,rfl,fun _ _ _ h=>nomatch h⟩
 exact ⟨rfl,rfl,rfl,fun _ _ _ h=>nomatch h⟩
structure RT (sz:Nat) (Q:TK → List AV → Sg → Prop) (s s':Sg) (v:AV):Prop where
 er:v.er=v
 len:v.cells.length=sz
 row:Q (mkX s.mn s') v.cells s'
 ext:ExtM s s'
def CR (a b:AV):Prop:=(∃ x y:Int,a=I x ∧ b=I y) ∨ (∃ x y:Bool,a=B x ∧ b=B y) ∨ (∃ x y:ByteArray,a=Str x ∧ b=Str y) ∨ b=a
structure SR (cs cs':List AV):Prop where
 len:cs'.length=cs.length
 at_:∀ (i:Nat) (a:AV),cs[i]?=some a → ∃ b,cs'[i]?=some b ∧ CR a b
theorem CR.trans {a b c:AV} (h:CR a b) (k:CR b c):CR a c:=by
 rcases h with ⟨x,y,rfl,rfl⟩ | ⟨x,y,rfl,rfl⟩ | ⟨x,y,rfl,rfl⟩ | rfl
 ·rcases k with ⟨u,w,e,rfl⟩ | ⟨u,w,e,rfl⟩ | ⟨u,w,e,rfl⟩ | rfl
  ·exact .inl ⟨_,_,rfl,rfl⟩
  ·cases e
  ·cases e
  exact .inl ⟨_,_,rfl,rfl⟩
 ·rcases k with ⟨u,w,e,rfl⟩ | ⟨u,w,e,rfl⟩ | ⟨u,w,e,rfl⟩ | rfl
  ·cases e
  ·exact .inr (.inl ⟨_,_,rfl,rfl⟩)
  ·cases e
  exact .inr (.inl ⟨_,_,rfl,rfl⟩)
 ·rcases k with ⟨u,w,e,rfl⟩ | ⟨u,w,e,rfl⟩ | ⟨u,w,e,rfl⟩ | rfl
  ·cases e
  ·cases e
  ·exact .inr (.inr (.inl ⟨_,_,rfl,rfl⟩))
  exact .inr (.inr (.inl ⟨_,_,rfl,rfl⟩))
 exact k
theorem SR.refl (cs:List AV):SR cs cs:=⟨rfl,fun i a h=>⟨a,h,.inr (.inr (.inr rfl))⟩⟩
theorem SR.trans {a b c:List AV} (h:SR a b) (k:SR b c):SR a c:=⟨k.len.trans h.len,fun i x hx=>by
 obtain ⟨y,h1,h2⟩:=h.at_ i x hx
 obtain ⟨z,h3,h4⟩:=k.at_ i y h1
 exact ⟨z,h3,h2.trans h4⟩⟩
theorem SR.sub {cs cs':List AV} (h:SR cs cs') (o n:Nat):SR ((cs.drop o).take n) ((cs'.drop o).take n):=by
 refine ⟨by simp only [List.length_take,List.length_drop,h.len],fun i a ha=>?_⟩
 rw [List.getElem?_take] at ha ⊢
 split at ha
 ·rename_i hi
  rw [List.getElem?_drop] at ha
  obtain ⟨b,h1,h2⟩:=h.at_ _ a ha
  exact ⟨b,by rw [if_pos hi,List.getElem?_drop];exact h1,h2⟩
 cases ha
structure Sc (S S':Sg):Prop where
 e:Ext S S'
 mn:S.mn ≤ S'.mn
 mu:∀ g cs,S.mu g=some cs → ∃ cs',S'.mu g=some cs' ∧ SR cs cs'
theorem Sc.refl (S:Sg):Sc S S:=⟨Ext.refl S,Nat.le_refl _,fun g cs h=>⟨cs,h,SR.refl cs⟩⟩
theorem Sc.trans {A B C:Sg} (h:Sc A B) (k:Sc B C):Sc A C:=⟨h.e.trans k.e,Nat.le_trans h.mn k.mn,fun g cs hg=>by
 obtain ⟨c1,h1,h2⟩:=h.mu g cs hg
 obtain ⟨c2,h3,h4⟩:=k.mu g c1 h1
 exact ⟨c2,h3,h2.trans h4⟩⟩
theorem Sc.put {S:Sg} {g:Nat} {cs cs':List AV} (hg:S.mu g=some cs) (h:SR cs cs'):Sc S { S with mu:=upd S.mu g (some cs') }:=by
 refine ⟨⟨Nat.le_refl _,fun _ _=>J,Nat.le_refl _,fun _ _=>J,J⟩,Nat.le_refl _,fun t ct ht=>?_⟩
 by_cases e:t=g
 ·subst e
  rw [hg] at ht
  cases ht
  exact ⟨cs',upd_same _ _ _,h⟩
 exact ⟨ct,(upd_ne _ _ e).trans ht,SR.refl _⟩
theorem SR.put1 {cs:List AV} {o:Nat} {a b:AV} (h:cs[o]?=some a) (k:CR a b):SR cs (wr cs o [b]):=by
 have ho:o < cs.length:=by
  rcases Nat.lt_or_ge o cs.length with h' | h'
  ·exact h'
  rw [List.getElem?_eq_none h'] at h;cases h
 have e:wr cs o [b]=cs.set o b:=by
  unfold wr
  rw [List.set_eq_take_append_cons_drop,if_pos ho]
  simp
 rw [e]
 refine ⟨List.length_set,fun i x hx=>?_⟩
 rw [List.getElem?_set]
 by_cases e2:o=i
 ·subst e2
  rw [h] at hx
  cases hx
  exact ⟨b,by rw [if_pos rfl,if_pos ho],k⟩
 exact ⟨x,by rw [if_neg e2];exact hx,.inr (.inr (.inr rfl))⟩
structure QS (Q:TK → List AV → Sg → Prop):Prop where
 sc:∀ {X:TK} {r r':List AV} {S S':Sg},Sc S S' → SR r r' → Q X r S → Q X r' S'
theorem OL.cr {sz:Nat} {Q:TK → List AV → Sg → Prop} {X:TK} {v b:AV} {S:Sg} (h:OL sz Q X v S) (k:CR v b):b=v:=by
 rcases k with ⟨x,y,rfl,rfl⟩ | ⟨x,y,rfl,rfl⟩ | ⟨x,y,rfl,rfl⟩ | rfl
 ·rcases h with e | ⟨g,len,cs,e,_⟩ <;> cases e
 ·rcases h with e | ⟨g,len,cs,e,_⟩ <;> cases e
 ·rcases h with e | ⟨g,len,cs,e,_⟩ <;> cases e
 rfl
theorem OL.sc {sz:Nat} {Q:TK → List AV → Sg → Prop} (hQ:QS Q) {X:TK} {v:AV} {S S':Sg} (k:Sc S S') (h:OL sz Q X v S):OL sz Q X v S':=by
 rcases h with h | ⟨g,len,cs,h1,h2,h3,h4,h5⟩
 ·exact .inl h
 obtain ⟨cs',k1,k2⟩:=k.mu g cs h3
 exact .inr ⟨g,len,cs',h1,h2,k1,⟨by rw [k2.len,h4.1],h4.2⟩,fun i hi=>hQ.sc k (k2.sub _ _) (h5 i hi)⟩
theorem SR.cons {a:AV} {l m:List AV} (h:SR (a :: l) m):∃ b m',m=b :: m' ∧ CR a b ∧ SR l m':=by
 cases m with
 | nil=>have:=h.len;simp at this
 | cons b m =>
   refine ⟨b,m,rfl,?_,⟨by have:=h.len;simpa using this,fun i x hx=>h.at_ (i + 1) x hx⟩⟩
   obtain ⟨c,h1,h2⟩:=h.at_ 0 a rfl
   cases h1
   exact h2
theorem SR.nil {m:List AV} (h:SR [] m):m=[]:=Lnl h.len
theorem CR.i {x:Int} {b:AV} (h:CR (I x) b):∃ y,b=I y:=by
 rcases h with ⟨u,y,_,rfl⟩ | ⟨u,y,e,_⟩ | ⟨u,y,e,_⟩ | rfl
 ·exact ⟨y,rfl⟩
 ·cases e
 ·cases e
 exact ⟨x,rfl⟩
theorem CR.b {x:Bool} {b:AV} (h:CR (B x) b):∃ y,b=B y:=by
 rcases h with ⟨u,y,e,_⟩ | ⟨u,y,_,rfl⟩ | ⟨u,y,e,_⟩ | rfl
 ·cases e
 ·exact ⟨y,rfl⟩
 ·cases e
 exact ⟨x,rfl⟩
theorem CR.s {x:ByteArray} {b:AV} (h:CR (Str x) b):∃ y,b=Str y:=by
 rcases h with ⟨u,y,e,_⟩ | ⟨u,y,e,_⟩ | ⟨u,y,_,rfl⟩ | rfl
 ·cases e
 ·cases e
 ·exact ⟨y,rfl⟩
 exact ⟨x,rfl⟩
theorem IR.s:QS IR:=⟨fun _ k ⟨x,e⟩=>by
 subst e
 obtain ⟨b,m,rfl,h1,h2⟩:=k.cons
 obtain rfl:=h2.nil
 obtain ⟨y,rfl⟩:=h1.i
 exact ⟨y,rfl⟩⟩
theorem BR.s:QS BR:=⟨fun _ k ⟨x,e⟩=>by
 subst e
 obtain ⟨b,m,rfl,h1,h2⟩:=k.cons
 obtain rfl:=h2.nil
 obtain ⟨y,rfl⟩:=h1.b
 exact ⟨y,rfl⟩⟩
theorem AR.s:QS AR:=⟨fun _ k ⟨x,z,e⟩=>by
 subst e
 obtain ⟨b,m,rfl,h1,h2⟩:=k.cons
 obtain ⟨c,m,rfl,h3,h4⟩:=h2.cons
 obtain rfl:=h4.nil
 obtain ⟨y,rfl⟩:=h1.i
 obtain ⟨w,rfl⟩:=h3.b
 exact ⟨y,w,rfl⟩⟩
theorem OB.so {n:Nat} (h:QS (ON n)):QS (OB n):=⟨fun k q ⟨v,c,r5,e,h1,h2,h3⟩=>by
 subst e
 obtain ⟨v',m,rfl,q1,z1⟩:=q.cons
 obtain ⟨c',m,rfl,q2,z2⟩:=z1.cons
 obtain rfl:=h1.cr q1
 obtain rfl:=h2.cr q2
 exact ⟨_,_,m,rfl,h1.sc IR.s k,h2.sc BR.s k,h.sc k z2 h3⟩⟩
theorem ON.s:∀ n,QS (ON n)
 | 0=>⟨fun _ _ h=>h⟩
 | n + 1=>⟨fun k q ⟨op,m,ty,a,b,e,h1,h2⟩=>by
   subst e
   obtain ⟨c1,m,rfl,q1,z1⟩:=q.cons
   obtain ⟨c2,m,rfl,q2,z2⟩:=z1.cons
   obtain ⟨c3,m,rfl,q3,z3⟩:=z2.cons
   obtain ⟨c4,m,rfl,q4,z4⟩:=z3.cons
   obtain ⟨c5,m,rfl,q5,z5⟩:=z4.cons
   obtain rfl:=z5.nil
   obtain ⟨y1,rfl⟩:=q1.i
   obtain ⟨y2,rfl⟩:=q2.i
   obtain ⟨y3,rfl⟩:=q3.i
   obtain rfl:=h1.cr q4
   obtain rfl:=OL.cr (Q:=OB n) h2 q5
   exact ⟨_,_,_,_,_,rfl,h1.sc (ON.s n) k,OL.sc (OB.so (ON.s n)) k h2⟩⟩
theorem OB.s (n:Nat):QS (OB n):=OB.so (ON.s n)
theorem OX.s:QS OX:=⟨fun k q ⟨nm,a,e,h⟩=>by
 subst e
 obtain ⟨c1,m,rfl,q1,z1⟩:=q.cons
 obtain ⟨c2,m,rfl,q2,z2⟩:=z1.cons
 obtain rfl:=z2.nil
 obtain ⟨y1,rfl⟩:=q1.s
 obtain rfl:=h.cr q2
 exact ⟨_,_,rfl,h.sc AR.s k⟩⟩
theorem OD.s:QS OD:=⟨fun k q ⟨nm,b,a,e,h⟩=>by
 subst e
 obtain ⟨c1,m,rfl,q1,z1⟩:=q.cons
 obtain ⟨c2,m,rfl,q2,z2⟩:=z1.cons
 obtain ⟨c3,m,rfl,q3,z3⟩:=z2.cons
 obtain rfl:=z3.nil
 obtain ⟨y1,rfl⟩:=q1.s
 obtain ⟨y2,rfl⟩:=q2.b
 obtain rfl:=h.cr q3
 exact ⟨_,_,_,rfl,h.sc OX.s k⟩⟩
theorem OF.s:QS OF:=⟨fun k q ⟨nm,a,v,r5,n,e,h1,h2,h3⟩=>by
 subst e
 obtain ⟨c1,m,rfl,q1,z1⟩:=q.cons
 obtain ⟨c2,m,rfl,q2,z2⟩:=z1.cons
 obtain ⟨c3,m,rfl,q3,z3⟩:=z2.cons
 obtain ⟨y1,rfl⟩:=q1.s
 obtain rfl:=h1.cr q2
 obtain rfl:=h2.cr q3
 exact ⟨_,_,_,m,n,rfl,h1.sc AR.s k,h2.sc IR.s k,(ON.s n).sc k z3 h3⟩⟩
end Go.Sim.Kd
namespace Go.Sim.Kd
open Go Go.Sim
theorem ExtM.mkX {a b c d:Sg} (h1:a.mn ≤ b.mn) (h2:c.mn ≤ d.mn):∀ g,Kd.mkX b.mn c g → Kd.mkX a.mn d g:=fun g h=>⟨by have:=h.1;omega,by have:=h.2;omega⟩
theorem RT.up {sz:Nat} {Q:TK → List AV → Sg → Prop} {s s':Sg} {v:AV} (h:RT sz Q s s' v):ExtM s s':=h.ext
theorem cloneT_c (s:Sg) (l:List Int) (h:l.length ≤ 2 ^ 40):HC p N29_ [ints l] s (fun r s'=>∃ out,r=[out] ∧ AccT 1 s.mn IR out l.length s' ∧ ExtM s s'):=by
 have e:p.ov N29_=some (cloneTOv 1 8):=rfl
 cases l with
 | nil =>
   refine ⟨_,s,?_,_,J,.inl ⟨J,J⟩,ExtM.refl s⟩
   rw [callL_eq,e]
   rfl
 | cons x l =>
   have hf:∀ l:List Int,flat (l.map I)=l.map I:=fun l=>by
    induction l with
    | nil=>rfl
    | cons a l ih =>
      have:flat (I a :: l.map I)=(I a).cells ++ flat (l.map I):=rfl
      rw [List.map_cons,this,ih]
      rfl
   refine ⟨[.ms s.mn 0 (l.length + 1) 1],{ s with mu:=upd s.mu s.mn (some (flat ((x :: l).map I))),mn:=s.mn + 1 },?_,.ms s.mn 0 (l.length + 1) 1,rfl,.inr ⟨s.mn,_,by simp,Nat.le_refl _,Nat.lt_succ_self _,upd_same _ _ _,by rw [hf];simp,fun i hi=>?_⟩,⟨⟨Nat.le_refl _,fun _ _=>rfl,Nat.le_refl _,fun _ _=>rfl,rfl⟩,fun g hg=>upd_ne _ _ (by omega),Nat.le_succ _⟩⟩
   ·rw [callL_eq,e]
    show (if 1=1 ∧ ((l.map I).length + 1) * 8 ≤ 2 ^ 47 then _ else none)=_
    rw [if_pos ⟨rfl,by simp at h ⊢;omega⟩,List.length_map]
    rfl
   rw [hf]
   obtain ⟨a,ha⟩:=get_of_lt (l:=x :: l) hi
   refine ⟨a,show rowAt 1 ((x :: l).map I) i=[I a] from ?_⟩
   unfold rowAt
   rw [Nat.mul_one,drop_cons (show ((x :: l).map I)[i]?=some (I a) by rw [Lgm,ha];rfl)]
   rfl
theorem eachboolT_l (l:List Bool) (f:Nat) (S0:Sg) (H:∀ a ∈ l,∀ s,DQ s → HC p f [B a] s (fun r s'=>∃ v,r=[v] ∧ RT 1 BR s s' v)) (out:AV) (i:Nat) (hi:i ≤ l.length) (hs:l.length ≤ 2 ^ 30) {n:Nat} {v:Nat → Bool} {D:List (Nat × List AV)} {S:Sg} {Q:Ex → Fr → Prop}
 (hD0:DQ S0) (hD:DQ S) (hE0:ExtM S0 S) (hA:AccO 1 S0.mn BR out i S) (hX:∀ j out' S',AccO 1 S0.mn BR out' l.length S' → ExtM S0 S' → Q (.exit 0) ⟨upd (upd (upd (upd (upd (upd ((fun _=>none)) 11 (some (.val (B false)))) 10 (some (.val (I j)))) 9 (some (.val (I (l.map B).length)))) 8 (some (.val (SL 1 (l.map B))))) 5 (some (.val out'))) 1 (some (.val (.fn f [] []))),(fun _=>none),n,v,D,S'⟩):EX (callL p) (.loop F70_l1) ⟨upd (upd (upd (upd (upd ((fun _=>none)) 10 (some (.val (I i)))) 9 (some (.val (I (l.map B).length)))) 8 (some (.val (SL 1 (l.map B))))) 5 (some (.val out))) 1 (some (.val (.fn f [] []))),(fun _=>none),n,v,D,S⟩ Q:=by
 refine eloop (er (qp J (qb ?_)))
 rintro (_ | _) h1
 ·refine qn (kq6 J) kn (eseq (ecF J (eexit (sqx ?_))))
  have he:i=l.length:=by simp at h1;omega
  subst he
  exact hX _ _ _ hA hE0
 refine qn (kq6 J) kn (eseq (ecT J (eskip (sqn (eseq (eblock (er ?_)))))))
 have hlt:i < l.length:=by simpa using h1
 obtain ⟨a,ha⟩:=get_of_lt hlt
 have hd:=drop_cons ha
 refine hia (y:=B a) rfl rfl (by omega) (by simp [ha]) rfl (qp rfl (qp rfl (qk (kc rfl (kc rfl (kc rfl (kc rfl (kc rfl (kc rfl kn)))))) kn (sqn (ereg (qp rfl (qp rfl (qp rfl (hcall rfl rfl rfl (H a (Lmg ha) _ hD) ?_)))))))))
 rintro _ S1 ⟨x,rfl,hx⟩
 refine hbsl (q':=[x]) rfl (by simp [hx.len]) (by simp only [AV.ers,hx.er]) ?_
 obtain ⟨out2,S2,w1,w2,w3⟩:=appm_t (by_:=1) BR.m hA hE0 hx.ext hx.row hx.len (by decide) (by omega) rfl
 refine hwop J w1 (qp J (qk (kq5 J) kn (bqn (sqn (ereg (hadd J J (i64w (by omega)) (qp J (qk (kq5 J) kn ?_))))))))
 exact eachboolT_l l f S0 H _ (i + 1) (by omega) hs hD0 (hD0.ext w3) w3 w2 hX
termination_by l.length - i
decreasing_by all_goals omega
theorem eachboolT_c (l:List Bool) (f:Nat) (H:∀ a ∈ l,∀ s,DQ s → HC p f [B a] s (fun r s'=>∃ v,r=[v] ∧ RT 1 BR s s' v)) (hs:l.length ≤ 2 ^ 30) (s:Sg) (hD:DQ s):HC p N70_ [SL 1 (l.map B),.fn f [] []] s (fun r s'=>∃ out,r=[out] ∧ AccT 1 s.mn BR out l.length s' ∧ ExtM s s'):=by
 refine hcf J f70_ J ?_
 simp only [chainOf]
 refine er (qp J (qn (kq2 J) kn (er (qp J (qn (kq3 J) kn (eseq (er (pq3 J (qn (kq5 J) kn (eblock (eachboolT_l l f _ H _ 0 (by omega) hs hD hD (ExtM.refl _) (.inl ⟨J,J⟩) ?_)))))))))))
 intro j out' S' hA hE
 refine bqx (sqn (er (pq2 J (qn (kq1 J) kn (eret (fqr J ?_))))))
 exact ⟨_,rfl,hA.res,hE⟩
theorem eachArgT_l (l:List Arg) (f:Nat) (S0:Sg) (H:∀ a ∈ l,∀ s,DQ s → HC p f [.agg [I a.ty,B a.co]] s (fun r s'=>∃ v,r=[v] ∧ RT 2 AR s s' v)) (out:AV) (i:Nat) (hi:i ≤ l.length) (hs:l.length ≤ 2 ^ 30) {n:Nat} {v:Nat → Bool} {D:List (Nat × List AV)} {S:Sg} {Q:Ex → Fr → Prop}
 (hD0:DQ S0) (hD:DQ S) (hE0:ExtM S0 S) (hA:AccO 2 S0.mn AR out i S) (hX:∀ j out' S',AccO 2 S0.mn AR out' l.length S' → ExtM S0 S' → Q (.exit 0) ⟨upd (upd (upd (upd (upd (upd ((fun _=>none)) 11 (some (.val (B false)))) 10 (some (.val (I j)))) 9 (some (.val (I (l.map Arg.enc).length)))) 8 (some (.val (SL 2 (l.map Arg.enc))))) 5 (some (.val out'))) 1 (some (.val (.fn f [] []))),(fun _=>none),n,v,D,S'⟩):EX (callL p) (.loop F25_l1) ⟨upd (upd (upd (upd (upd ((fun _=>none)) 10 (some (.val (I i)))) 9 (some (.val (I (l.map Arg.enc).length)))) 8 (some (.val (SL 2 (l.map Arg.enc))))) 5 (some (.val out))) 1 (some (.val (.fn f [] []))),(fun _=>none),n,v,D,S⟩ Q:=by
 refine eloop (er (qp J (qb ?_)))
 rintro (_ | _) h1
 ·refine qn (kq6 J) kn (eseq (ecF J (eexit (sqx ?_))))
  have he:i=l.length:=by simp at h1;omega
  subst he
  exact hX _ _ _ hA hE0
 refine qn (kq6 J) kn (eseq (ecT J (eskip (sqn (eseq (eblock (er ?_)))))))
 have hlt:i < l.length:=by simpa using h1
 obtain ⟨a,ha⟩:=get_of_lt hlt
 have hd:=drop_cons ha
 refine hia (y:=.agg [I a.ty,B a.co]) rfl rfl (by omega) (by simp [ha,Arg.enc]) rfl (hlda rfl rfl (lc rfl (lc rfl (ln rfl))) (hal (dc (dc (dc (dc (dc (dc (dc (dc dn rfl) rfl) rfl) rfl) rfl) rfl) rfl) rfl) (hstl rfl rfl rfl rfl (Nlb rfl) (lc rfl (lc rfl (ln rfl))) (qk (kc rfl (kc rfl (kc rfl (kc rfl (kc rfl (kc rfl kn)))))) (kc rfl kn) (sqn (ereg (qp rfl (qp rfl (hlda rfl rfl (lc rfl (lc rfl (ln rfl))) (hcall rfl rfl rfl (H a (Lmg ha) _ hD) ?_))))))))))
 rintro _ S1 ⟨x,rfl,hx⟩
 refine hbsl (q':=[x]) rfl (by simp [hx.len]) (by simp only [AV.ers,hx.er]) ?_
 obtain ⟨out2,S2,w1,w2,w3⟩:=appm_t (by_:=16) AR.m hA hE0 hx.ext hx.row hx.len (by decide) (by omega) rfl
 refine hwop J w1 (qp J (qk (kq5 J) kn (bqn (sqn (ereg (hadd J J (i64w (by omega)) (qp J (qk (kq5 J) kn ?_))))))))
 exact eachArgT_l l f S0 H _ (i + 1) (by omega) hs hD0 (hD0.ext w3) w3 w2 hX
termination_by l.length - i
decreasing_by all_goals omega
theorem eachArgT_c (l:List Arg) (f:Nat) (H:∀ a ∈ l,∀ s,DQ s → HC p f [.agg [I a.ty,B a.co]] s (fun r s'=>∃ v,r=[v] ∧ RT 2 AR s s' v)) (hs:l.length ≤ 2 ^ 30) (s:Sg) (hD:DQ s):HC p N25_ [SL 2 (l.map Arg.enc),.fn f [] []] s (fun r s'=>∃ out,r=[out] ∧ AccT 2 s.mn AR out l.length s' ∧ ExtM s s'):=by
 refine hcf J f25_ J ?_
 simp only [chainOf]
 refine er (qp J (qn (kq2 J) kn (er (qp J (qn (kq3 J) kn (eseq (er (pq3 J (qn (kq5 J) kn (eblock (eachArgT_l l f _ H _ 0 (by omega) hs hD hD (ExtM.refl _) (.inl ⟨J,J⟩) ?_)))))))))))
 intro j out' S' hA hE
 refine bqx (sqn (er (pq2 J (qn (kq1 J) kn (eret (fqr J ?_))))))
 exact ⟨_,rfl,hA.res,hE⟩
theorem eachXtorT_l (l:List Xtor) (f:Nat) (S0:Sg) (H:∀ a ∈ l,∀ s,DQ s → HC p f [.agg [Str a.name,encArgs a.args]] s (fun r s'=>∃ v,r=[v] ∧ RT 2 OX s s' v)) (out:AV) (i:Nat) (hi:i ≤ l.length) (hs:l.length ≤ 2 ^ 30) {n:Nat} {v:Nat → Bool} {D:List (Nat × List AV)} {S:Sg} {Q:Ex → Fr → Prop}
 (hD0:DQ S0) (hD:DQ S) (hE0:ExtM S0 S) (hA:AccO 2 S0.mn OX out i S) (hX:∀ j out' S',AccO 2 S0.mn OX out' l.length S' → ExtM S0 S' → Q (.exit 0) ⟨upd (upd (upd (upd (upd (upd ((fun _=>none)) 11 (some (.val (B false)))) 10 (some (.val (I j)))) 9 (some (.val (I (l.map Xtor.enc).length)))) 8 (some (.val (SL 2 (l.map Xtor.enc))))) 5 (some (.val out'))) 1 (some (.val (.fn f [] []))),(fun _=>none),n,v,D,S'⟩):EX (callL p) (.loop F23_l1) ⟨upd (upd (upd (upd (upd ((fun _=>none)) 10 (some (.val (I i)))) 9 (some (.val (I (l.map Xtor.enc).length)))) 8 (some (.val (SL 2 (l.map Xtor.enc))))) 5 (some (.val out))) 1 (some (.val (.fn f [] []))),(fun _=>none),n,v,D,S⟩ Q:=by
 refine eloop (er (qp J (qb ?_)))
 rintro (_ | _) h1
 ·refine qn (kq6 J) kn (eseq (ecF J (eexit (sqx ?_))))
  have he:i=l.length:=by simp at h1;omega
  subst he
  exact hX _ _ _ hA hE0
 refine qn (kq6 J) kn (eseq (ecT J (eskip (sqn (eseq (eblock (er ?_)))))))
 have hlt:i < l.length:=by simpa using h1
 obtain ⟨a,ha⟩:=get_of_lt hlt
 have hd:=drop_cons ha
 refine hia (y:=.agg [Str a.name,encArgs a.args]) rfl rfl (by omega) (by simp [ha,Xtor.enc]) rfl (hlda rfl rfl (lc rfl (lc rfl (ln rfl))) (hal (dc (dc (dc (dc (dc (dc (dc (dc dn rfl) rfl) rfl) rfl) rfl) rfl) rfl) rfl) (hstl rfl rfl rfl rfl (Nlb rfl) (lc rfl (lc rfl (ln rfl))) (qk (kc rfl (kc rfl (kc rfl (kc rfl (kc rfl (kc rfl kn)))))) (kc rfl kn) (sqn (ereg (qp rfl (qp rfl (hlda rfl rfl (lc rfl (lc rfl (ln rfl))) (hcall rfl rfl rfl (H a (Lmg ha) _ hD) ?_))))))))))
 rintro _ S1 ⟨x,rfl,hx⟩
 refine hbsl (q':=[x]) rfl (by simp [hx.len]) (by simp only [AV.ers,hx.er]) ?_
 obtain ⟨out2,S2,w1,w2,w3⟩:=appm_t (by_:=40) OX.m hA hE0 hx.ext hx.row hx.len (by decide) (by omega) rfl
 refine hwop J w1 (qp J (qk (kq5 J) kn (bqn (sqn (ereg (hadd J J (i64w (by omega)) (qp J (qk (kq5 J) kn ?_))))))))
 exact eachXtorT_l l f S0 H _ (i + 1) (by omega) hs hD0 (hD0.ext w3) w3 w2 hX
termination_by l.length - i
decreasing_by all_goals omega
theorem eachXtorT_c (l:List Xtor) (f:Nat) (H:∀ a ∈ l,∀ s,DQ s → HC p f [.agg [Str a.name,encArgs a.args]] s (fun r s'=>∃ v,r=[v] ∧ RT 2 OX s s' v)) (hs:l.length ≤ 2 ^ 30) (s:Sg) (hD:DQ s):HC p N23_ [SL 2 (l.map Xtor.enc),.fn f [] []] s (fun r s'=>∃ out,r=[out] ∧ AccT 2 s.mn OX out l.length s' ∧ ExtM s s'):=by
 refine hcf J f23_ J ?_
 simp only [chainOf]
 refine er (qp J (qn (kq2 J) kn (er (qp J (qn (kq3 J) kn (eseq (er (pq3 J (qn (kq5 J) kn (eblock (eachXtorT_l l f _ H _ 0 (by omega) hs hD hD (ExtM.refl _) (.inl ⟨J,J⟩) ?_)))))))))))
 intro j out' S' hA hE
 refine bqx (sqn (er (pq2 J (qn (kq1 J) kn (eret (fqr J ?_))))))
 exact ⟨_,rfl,hA.res,hE⟩
theorem eachDeclT_l (l:List Decl) (f:Nat) (S0:Sg) (H:∀ a ∈ l,∀ s,DQ s → HC p f [.agg [Str a.name,B a.codata,SL 2 (a.xtors.map Xtor.enc)]] s (fun r s'=>∃ v,r=[v] ∧ RT 3 OD s s' v)) (out:AV) (i:Nat) (hi:i ≤ l.length) (hs:l.length ≤ 2 ^ 30) {n:Nat} {v:Nat → Bool} {D:List (Nat × List AV)} {S:Sg} {Q:Ex → Fr → Prop}
 (hD0:DQ S0) (hD:DQ S) (hE0:ExtM S0 S) (hA:AccO 3 S0.mn OD out i S) (hX:∀ j out' S',AccO 3 S0.mn OD out' l.length S' → ExtM S0 S' → Q (.exit 0) ⟨upd (upd (upd (upd (upd (upd ((fun _=>none)) 11 (some (.val (B false)))) 10 (some (.val (I j)))) 9 (some (.val (I (l.map Decl.enc).length)))) 8 (some (.val (SL 3 (l.map Decl.enc))))) 5 (some (.val out'))) 1 (some (.val (.fn f [] []))),(fun _=>none),n,v,D,S'⟩):EX (callL p) (.loop F21_l1) ⟨upd (upd (upd (upd (upd ((fun _=>none)) 10 (some (.val (I i)))) 9 (some (.val (I (l.map Decl.enc).length)))) 8 (some (.val (SL 3 (l.map Decl.enc))))) 5 (some (.val out))) 1 (some (.val (.fn f [] []))),(fun _=>none),n,v,D,S⟩ Q:=by
 refine eloop (er (qp J (qb ?_)))
 rintro (_ | _) h1
 ·refine qn (kq6 J) kn (eseq (ecF J (eexit (sqx ?_))))
  have he:i=l.length:=by simp at h1;omega
  subst he
  exact hX _ _ _ hA hE0
 refine qn (kq6 J) kn (eseq (ecT J (eskip (sqn (eseq (eblock (er ?_)))))))
 have hlt:i < l.length:=by simpa using h1
 obtain ⟨a,ha⟩:=get_of_lt hlt
 have hd:=drop_cons ha
 refine hia (y:=.agg [Str a.name,B a.codata,SL 2 (a.xtors.map Xtor.enc)]) rfl rfl (by omega) (by simp [ha,Decl.enc]) rfl (hlda rfl rfl (lc rfl (lc rfl (lc rfl (ln rfl)))) (hal (dc (dc (dc (dc (dc (dc (dc (dc dn rfl) rfl) rfl) rfl) rfl) rfl) rfl) rfl) (hstl rfl rfl rfl rfl (Nlb rfl) (lc rfl (lc rfl (lc rfl (ln rfl)))) (qk (kc rfl (kc rfl (kc rfl (kc rfl (kc rfl (kc rfl kn)))))) (kc rfl kn) (sqn (ereg (qp rfl (qp rfl (hlda rfl rfl (lc rfl (lc rfl (lc rfl (ln rfl)))) (hcall rfl rfl rfl (H a (Lmg ha) _ hD) ?_))))))))))
 rintro _ S1 ⟨x,rfl,hx⟩
 refine hbsl (q':=[x]) rfl (by simp [hx.len]) (by simp only [AV.ers,hx.er]) ?_
 obtain ⟨out2,S2,w1,w2,w3⟩:=appm_t (by_:=48) OD.m hA hE0 hx.ext hx.row hx.len (by decide) (by omega) rfl
 refine hwop J w1 (qp J (qk (kq5 J) kn (bqn (sqn (ereg (hadd J J (i64w (by omega)) (qp J (qk (kq5 J) kn ?_))))))))
 exact eachDeclT_l l f S0 H _ (i + 1) (by omega) hs hD0 (hD0.ext w3) w3 w2 hX
termination_by l.length - i
decreasing_by all_goals omega
theorem eachDeclT_c (l:List Decl) (f:Nat) (H:∀ a ∈ l,∀ s,DQ s → HC p f [.agg [Str a.name,B a.codata,SL 2 (a.xtors.map Xtor.enc)]] s (fun r s'=>∃ v,r=[v] ∧ RT 3 OD s s' v)) (hs:l.length ≤ 2 ^ 30) (s:Sg) (hD:DQ s):HC p N21_ [SL 3 (l.map Decl.enc),.fn f [] []] s (fun r s'=>∃ out,r=[out] ∧ AccT 3 s.mn OD out l.length s' ∧ ExtM s s'):=by
 refine hcf J f21_ J ?_
 simp only [chainOf]
 refine er (qp J (qn (kq2 J) kn (er (qp J (qn (kq3 J) kn (eseq (er (pq3 J (qn (kq5 J) kn (eblock (eachDeclT_l l f _ H _ 0 (by omega) hs hD hD (ExtM.refl _) (.inl ⟨J,J⟩) ?_)))))))))))
 intro j out' S' hA hE
 refine bqx (sqn (er (pq2 J (qn (kq1 J) kn (eret (fqr J ?_))))))
 exact ⟨_,rfl,hA.res,hE⟩
theorem eachNodeT_l (k:Nat) (l:List Node) (f:Nat) (S0:Sg) (H:∀ a ∈ l,∀ s,DQ s → HC p f [.agg a.cs] s (fun r s'=>∃ v,r=[v] ∧ RT 5 (ON k) s s' v)) (out:AV) (i:Nat) (hi:i ≤ l.length) (hs:l.length ≤ 2 ^ 30) {n:Nat} {v:Nat → Bool} {D:List (Nat × List AV)} {S:Sg} {Q:Ex → Fr → Prop}
 (hD0:DQ S0) (hD:DQ S) (hE0:ExtM S0 S) (hA:AccO 5 S0.mn (ON k) out i S) (hX:∀ j out' S',AccO 5 S0.mn (ON k) out' l.length S' → ExtM S0 S' → Q (.exit 0) ⟨upd (upd (upd (upd (upd (upd ((fun _=>none)) 11 (some (.val (B false)))) 10 (some (.val (I j)))) 9 (some (.val (I (l.map Node.enc).length)))) 8 (some (.val (SL 5 (l.map Node.enc))))) 5 (some (.val out'))) 1 (some (.val (.fn f [] []))),(fun _=>none),n,v,D,S'⟩):EX (callL p) (.loop F66_l1) ⟨upd (upd (upd (upd (upd ((fun _=>none)) 10 (some (.val (I i)))) 9 (some (.val (I (l.map Node.enc).length)))) 8 (some (.val (SL 5 (l.map Node.enc))))) 5 (some (.val out))) 1 (some (.val (.fn f [] []))),(fun _=>none),n,v,D,S⟩ Q:=by
 refine eloop (er (qp J (qb ?_)))
 rintro (_ | _) h1
 ·refine qn (kq6 J) kn (eseq (ecF J (eexit (sqx ?_))))
  have he:i=l.length:=by simp at h1;omega
  subst he
  exact hX _ _ _ hA hE0
 refine qn (kq6 J) kn (eseq (ecT J (eskip (sqn (eseq (eblock (er ?_)))))))
 have hlt:i < l.length:=by simpa using h1
 obtain ⟨a,ha⟩:=get_of_lt hlt
 have hd:=drop_cons ha
 refine hia (y:=.agg a.cs) rfl rfl (by omega) (by simp [ha,Node.enc_eq]) rfl (hlda rfl rfl (lc rfl (lc rfl (lc rfl (lc rfl (lc rfl (ln rfl)))))) (hal (dc (dc (dc (dc (dc (dc (dc (dc dn rfl) rfl) rfl) rfl) rfl) rfl) rfl) rfl) (hstl rfl rfl rfl rfl (Nlb rfl) (lc rfl (lc rfl (lc rfl (lc rfl (lc rfl (ln rfl)))))) (qk (kc rfl (kc rfl (kc rfl (kc rfl (kc rfl (kc rfl kn)))))) (kc rfl kn) (sqn (ereg (qp rfl (qp rfl (hlda rfl rfl (lc rfl (lc rfl (lc rfl (lc rfl (lc rfl (ln rfl)))))) (hcall rfl rfl rfl (H a (Lmg ha) _ hD) ?_))))))))))
 rintro _ S1 ⟨x,rfl,hx⟩
 refine hbsl (q':=[x]) rfl (by simp [hx.len]) (by simp only [AV.ers,hx.er]) ?_
 obtain ⟨out2,S2,w1,w2,w3⟩:=appm_t (by_:=72) (ON.m k) hA hE0 hx.ext hx.row hx.len (by decide) (by omega) rfl
 refine hwop J w1 (qp J (qk (kq5 J) kn (bqn (sqn (ereg (hadd J J (i64w (by omega)) (qp J (qk (kq5 J) kn ?_))))))))
 exact eachNodeT_l k l f S0 H _ (i + 1) (by omega) hs hD0 (hD0.ext w3) w3 w2 hX
termination_by l.length - i
decreasing_by all_goals omega
theorem eachNodeT_c (k:Nat) (l:List Node) (f:Nat) (H:∀ a ∈ l,∀ s,DQ s → HC p f [.agg a.cs] s (fun r s'=>∃ v,r=[v] ∧ RT 5 (ON k) s s' v)) (hs:l.length ≤ 2 ^ 30) (s:Sg) (hD:DQ s):HC p N66_ [SL 5 (l.map Node.enc),.fn f [] []] s (fun r s'=>∃ out,r=[out] ∧ AccT 5 s.mn (ON k) out l.length s' ∧ ExtM s s'):=by
 refine hcf J f66_ J ?_
 simp only [chainOf]
 refine er (qp J (qn (kq2 J) kn (er (qp J (qn (kq3 J) kn (eseq (er (pq3 J (qn (kq5 J) kn (eblock (eachNodeT_l k l f _ H _ 0 (by omega) hs hD hD (ExtM.refl _) (.inl ⟨J,J⟩) ?_)))))))))))
 intro j out' S' hA hE
 refine bqx (sqn (er (pq2 J (qn (kq1 J) kn (eret (fqr J ?_))))))
 exact ⟨_,rfl,hA.res,hE⟩
theorem eachBranchT_l (k:Nat) (l:List Br) (f:Nat) (S0:Sg) (H:∀ a ∈ l,∀ s,DQ s → HC p f [.agg (ints a.vars :: bools a.co :: a.body.cs)] s (fun r s'=>∃ v,r=[v] ∧ RT 7 (OB k) s s' v)) (out:AV) (i:Nat) (hi:i ≤ l.length) (hs:l.length ≤ 2 ^ 30) {n:Nat} {v:Nat → Bool} {D:List (Nat × List AV)} {S:Sg} {Q:Ex → Fr → Prop}
 (hD0:DQ S0) (hD:DQ S) (hE0:ExtM S0 S) (hA:AccO 7 S0.mn (OB k) out i S) (hX:∀ j out' S',AccO 7 S0.mn (OB k) out' l.length S' → ExtM S0 S' → Q (.exit 0) ⟨upd (upd (upd (upd (upd (upd ((fun _=>none)) 11 (some (.val (B false)))) 10 (some (.val (I j)))) 9 (some (.val (I (l.map Br.enc).length)))) 8 (some (.val (SL 7 (l.map Br.enc))))) 5 (some (.val out'))) 1 (some (.val (.fn f [] []))),(fun _=>none),n,v,D,S'⟩):EX (callL p) (.loop F68_l1) ⟨upd (upd (upd (upd (upd ((fun _=>none)) 10 (some (.val (I i)))) 9 (some (.val (I (l.map Br.enc).length)))) 8 (some (.val (SL 7 (l.map Br.enc))))) 5 (some (.val out))) 1 (some (.val (.fn f [] []))),(fun _=>none),n,v,D,S⟩ Q:=by
 refine eloop (er (qp J (qb ?_)))
 rintro (_ | _) h1
 ·refine qn (kq6 J) kn (eseq (ecF J (eexit (sqx ?_))))
  have he:i=l.length:=by simp at h1;omega
  subst he
  exact hX _ _ _ hA hE0
 refine qn (kq6 J) kn (eseq (ecT J (eskip (sqn (eseq (eblock (er ?_)))))))
 have hlt:i < l.length:=by simpa using h1
 obtain ⟨a,ha⟩:=get_of_lt hlt
 have hd:=drop_cons ha
 refine hia (y:=.agg (ints a.vars :: bools a.co :: a.body.cs)) rfl rfl (by omega) (by simp [ha,Br.enc_eq]) rfl (hlda rfl rfl (lc rfl (lc rfl (lc rfl (lc rfl (lc rfl (lc rfl (lc rfl (ln rfl)))))))) (hal (dc (dc (dc (dc (dc (dc (dc (dc dn rfl) rfl) rfl) rfl) rfl) rfl) rfl) rfl) (hstl rfl rfl rfl rfl (Nlb rfl) (lc rfl (lc rfl (lc rfl (lc rfl (lc rfl (lc rfl (lc rfl (ln rfl)))))))) (qk (kc rfl (kc rfl (kc rfl (kc rfl (kc rfl (kc rfl kn)))))) (kc rfl kn) (sqn (ereg (qp rfl (qp rfl (hlda rfl rfl (lc rfl (lc rfl (lc rfl (lc rfl (lc rfl (lc rfl (lc rfl (ln rfl)))))))) (hcall rfl rfl rfl (H a (Lmg ha) _ hD) ?_))))))))))
 rintro _ S1 ⟨x,rfl,hx⟩
 refine hbsl (q':=[x]) rfl (by simp [hx.len]) (by simp only [AV.ers,hx.er]) ?_
 obtain ⟨out2,S2,w1,w2,w3⟩:=appm_t (by_:=120) (OB.m k) hA hE0 hx.ext hx.row hx.len (by decide) (by omega) rfl
 refine hwop J w1 (qp J (qk (kq5 J) kn (bqn (sqn (ereg (hadd J J (i64w (by omega)) (qp J (qk (kq5 J) kn ?_))))))))
 exact eachBranchT_l k l f S0 H _ (i + 1) (by omega) hs hD0 (hD0.ext w3) w3 w2 hX
termination_by l.length - i
decreasing_by all_goals omega
theorem eachBranchT_c (k:Nat) (l:List Br) (f:Nat) (H:∀ a ∈ l,∀ s,DQ s → HC p f [.agg (ints a.vars :: bools a.co :: a.body.cs)] s (fun r s'=>∃ v,r=[v] ∧ RT 7 (OB k) s s' v)) (hs:l.length ≤ 2 ^ 30) (s:Sg) (hD:DQ s):HC p N68_ [SL 7 (l.map Br.enc),.fn f [] []] s (fun r s'=>∃ out,r=[out] ∧ AccT 7 s.mn (OB k) out l.length s' ∧ ExtM s s'):=by
 refine hcf J f68_ J ?_
 simp only [chainOf]
 refine er (qp J (qn (kq2 J) kn (er (qp J (qn (kq3 J) kn (eseq (er (pq3 J (qn (kq5 J) kn (eblock (eachBranchT_l k l f _ H _ 0 (by omega) hs hD hD (ExtM.refl _) (.inl ⟨J,J⟩) ?_)))))))))))
 intro j out' S' hA hE
 refine bqx (sqn (er (pq2 J (qn (kq1 J) kn (eret (fqr J ?_))))))
 exact ⟨_,rfl,hA.res,hE⟩
theorem eachCoreFunT_l (l:List CFun) (f:Nat) (S0:Sg) (H:∀ a ∈ l,∀ s,DQ s → HC p f [.agg (Str a.name :: encArgs a.params :: ints a.vars :: a.body.cs)] s (fun r s'=>∃ v,r=[v] ∧ RT 8 OF s s' v)) (out:AV) (i:Nat) (hi:i ≤ l.length) (hs:l.length ≤ 2 ^ 30) {n:Nat} {v:Nat → Bool} {D:List (Nat × List AV)} {S:Sg} {Q:Ex → Fr → Prop}
 (hD0:DQ S0) (hD:DQ S) (hE0:ExtM S0 S) (hA:AccO 8 S0.mn OF out i S) (hX:∀ j out' S',AccO 8 S0.mn OF out' l.length S' → ExtM S0 S' → Q (.exit 0) ⟨upd (upd (upd (upd (upd (upd ((fun _=>none)) 11 (some (.val (B false)))) 10 (some (.val (I j)))) 9 (some (.val (I (l.map CFun.enc).length)))) 8 (some (.val (SL 8 (l.map CFun.enc))))) 5 (some (.val out'))) 1 (some (.val (.fn f [] []))),(fun _=>none),n,v,D,S'⟩):EX (callL p) (.loop F27_l1) ⟨upd (upd (upd (upd (upd ((fun _=>none)) 10 (some (.val (I i)))) 9 (some (.val (I (l.map CFun.enc).length)))) 8 (some (.val (SL 8 (l.map CFun.enc))))) 5 (some (.val out))) 1 (some (.val (.fn f [] []))),(fun _=>none),n,v,D,S⟩ Q:=by
 refine eloop (er (qp J (qb ?_)))
 rintro (_ | _) h1
 ·refine qn (kq6 J) kn (eseq (ecF J (eexit (sqx ?_))))
  have he:i=l.length:=by simp at h1;omega
  subst he
  exact hX _ _ _ hA hE0
 refine qn (kq6 J) kn (eseq (ecT J (eskip (sqn (eseq (eblock (er ?_)))))))
 have hlt:i < l.length:=by simpa using h1
 obtain ⟨a,ha⟩:=get_of_lt hlt
 have hd:=drop_cons ha
 refine hia (y:=.agg (Str a.name :: encArgs a.params :: ints a.vars :: a.body.cs)) rfl rfl (by omega) (by simp [ha,CFun.enc_eq]) rfl (hlda rfl rfl (lc rfl (lc rfl (lc rfl (lc rfl (lc rfl (lc rfl (lc rfl (lc rfl (ln rfl))))))))) (hal (dc (dc (dc (dc (dc (dc (dc (dc dn rfl) rfl) rfl) rfl) rfl) rfl) rfl) rfl) (hstl rfl rfl rfl rfl (Nlb rfl) (lc rfl (lc rfl (lc rfl (lc rfl (lc rfl (lc rfl (lc rfl (lc rfl (ln rfl))))))))) (qk (kc rfl (kc rfl (kc rfl (kc rfl (kc rfl (kc rfl kn)))))) (kc rfl kn) (sqn (ereg (qp rfl (qp rfl (hlda rfl rfl (lc rfl (lc rfl (lc rfl (lc rfl (lc rfl (lc rfl (lc rfl (lc rfl (ln rfl))))))))) (hcall rfl rfl rfl (H a (Lmg ha) _ hD) ?_))))))))))
 rintro _ S1 ⟨x,rfl,hx⟩
 refine hbsl (q':=[x]) rfl (by simp [hx.len]) (by simp only [AV.ers,hx.er]) ?_
 obtain ⟨out2,S2,w1,w2,w3⟩:=appm_t (by_:=136) OF.m hA hE0 hx.ext hx.row hx.len (by decide) (by omega) rfl
 refine hwop J w1 (qp J (qk (kq5 J) kn (bqn (sqn (ereg (hadd J J (i64w (by omega)) (qp J (qk (kq5 J) kn ?_))))))))
 exact eachCoreFunT_l l f S0 H _ (i + 1) (by omega) hs hD0 (hD0.ext w3) w3 w2 hX
termination_by l.length - i
decreasing_by all_goals omega
theorem eachCoreFunT_c (l:List CFun) (f:Nat) (H:∀ a ∈ l,∀ s,DQ s → HC p f [.agg (Str a.name :: encArgs a.params :: ints a.vars :: a.body.cs)] s (fun r s'=>∃ v,r=[v] ∧ RT 8 OF s s' v)) (hs:l.length ≤ 2 ^ 30) (s:Sg) (hD:DQ s):HC p N27_ [SL 8 (l.map CFun.enc),.fn f [] []] s (fun r s'=>∃ out,r=[out] ∧ AccT 8 s.mn OF out l.length s' ∧ ExtM s s'):=by
 refine hcf J f27_ J ?_
 simp only [chainOf]
 refine er (qp J (qn (kq2 J) kn (er (qp J (qn (kq3 J) kn (eseq (er (pq3 J (qn (kq5 J) kn (eblock (eachCoreFunT_l l f _ H _ 0 (by omega) hs hD hD (ExtM.refl _) (.inl ⟨J,J⟩) ?_)))))))))))
 intro j out' S' hA hE
 refine bqx (sqn (er (pq2 J (qn (kq1 J) kn (eret (fqr J ?_))))))
 exact ⟨_,rfl,hA.res,hE⟩
end Go.Sim.Kd
namespace Go.Sim.Kd
open Go Go.Sim
theorem ON.c1 {n:Nat} {X:TK} {r:List AV} {S:Sg} (h:ON n X r S):r.length=5 ∧ AV.ers r=r ∧ AV.erTs r=r:=by
 cases n with
 | zero=>exact h.elim
 | succ n =>
   obtain ⟨op,m,ty,a,b,rfl,h1,h2⟩:=h
   obtain ⟨_,a1,a2⟩:=h1.c1
   obtain ⟨_,b1,b2⟩:=OL.c1 (Q:=OB n) h2
   exact ⟨rfl,by simp only [AV.ers,AV.er,a2,b2],by simp only [AV.erTs,AV.erT,a1,b1]⟩
theorem five {r:List AV} (h:r.length=5):∃ a b c d e,r=[a,b,c,d,e]:=by
 match r,h with
 | [a,b,c,d,e],_=>exact ⟨a,b,c,d,e,rfl⟩
theorem rows2 {sz:Nat} {cs:List AV} (h:cs.length=2 * sz):cs=rowAt sz cs 0 ++ rowAt sz cs 1:=by
 unfold rowAt
 rw [Nat.zero_mul,List.drop_zero,Nat.one_mul,List.take_of_length_le (l:=cs.drop sz) (by rw [List.length_drop];omega),List.take_append_drop]
def NodeT (k:Nat) (a:Node):Prop:=∀ s,DQ s → HC p N30_ [.agg a.cs] s (fun r s'=>∃ v,r=[v] ∧ RT 5 (ON k) s s' v)
def BrT (k:Nat) (b:Br):Prop:=∀ s,DQ s → HC p N69_ [.agg (ints b.vars :: bools b.co :: b.body.cs)] s (fun r s'=>∃ v,r=[v] ∧ RT 7 (OB k) s s' v)
theorem ReverseT_c (s:Sg) (g:Nat) (x1 x2 x3 x4 x5 y1 y2 y3 y4 y5:AV) (hx:AV.erTs [x1,x2,x3,x4,x5]=[x1,x2,x3,x4,x5]) (hy:AV.erTs [y1,y2,y3,y4,y5]=[y1,y2,y3,y4,y5]) (hg:s.mu g=some [x1,x2,x3,x4,x5,y1,y2,y3,y4,y5]):HC p N67_ [.ms g 0 2 5] s (fun r s'=>r=[] ∧ s'={ s with mu:=upd (upd s.mu g (some [y1,y2,y3,y4,y5,y1,y2,y3,y4,y5])) g (some [y1,y2,y3,y4,y5,x1,x2,x3,x4,x5]) }):=by
 refine hcf J f67_ J ?_
 simp only [chainOf]
 refine er (pq2 J (hsub J J (i64w (by omega)) (pq2 J (qn (kq3 J) kn (eblock (eloop (eseq (er (pq3 J (qb ?_))))))))))
 rintro (_ | _) h1
 ·exact absurd h1 (by decide)
 refine qk (kc rfl (kc rfl (kc rfl (kc rfl kn)))) kn (sqn (ecT rfl (eskip (sqn (eseq (eblock (ereg (qp rfl (qp rfl (qp rfl (qp rfl (qp rfl (qp rfl (hiam rfl rfl (by decide) (by decide) (hldm rfl hg (y:=.agg [y1,y2,y3,y4,y5]) rfl (qp rfl (qp rfl (hiam rfl rfl (by decide) (by decide) (hldm rfl hg (y:=.agg [x1,x2,x3,x4,x5]) rfl (hiam rfl rfl (by decide) (by decide) (hstm rfl rfl hg rfl (Nlb rfl) (by simp) (cs':=[y1,y2,y3,y4,y5,y1,y2,y3,y4,y5]) (by simp only [AV.erT,hy];rfl) (hiam rfl rfl (by decide) (by decide) (hstm rfl rfl (upd_same _ _ _) rfl (Nlb rfl) (by simp) (cs':=[y1,y2,y3,y4,y5,x1,x2,x3,x4,x5]) (by simp only [AV.erT,hx];rfl) ?_)))))))))))))))))))))))
 refine qk (kq3 J) kn (bqn (sqn (ereg (qp J (hadd J J (i64w (by omega)) (qp J (hsub J J (i64w (by omega)) (pq2 J (qn (kq3 J) kn (eloop (eseq (er (pq3 J (qb ?_))))))))))))))
 rintro (_ | _) h2
 ·refine qn (kq4 J) kn (ecF J (eexit (sqx (sqx (bqx (fqn J ?_))))))
  exact ⟨rfl,rfl⟩
 exact absurd h2 (by decide)
theorem AccT.rev {k b:Nat} {out:AV} {S0 S:Sg} (h:AccT 5 b (ON k) out 2 S):∃ g x1 x2 x3 x4 x5 y1 y2 y3 y4 y5,out=.ms g 0 2 5 ∧ b ≤ g ∧ g < S.mn ∧ AV.erTs [x1,x2,x3,x4,x5]=[x1,x2,x3,x4,x5] ∧ AV.erTs [y1,y2,y3,y4,y5]=[y1,y2,y3,y4,y5] ∧ S.mu g=some [x1,x2,x3,x4,x5,y1,y2,y3,y4,y5] ∧
 AccT 5 b (ON k) out 2 { S with mu:=upd (upd S.mu g (some [y1,y2,y3,y4,y5,y1,y2,y3,y4,y5])) g (some [y1,y2,y3,y4,y5,x1,x2,x3,x4,x5]) }:=by
 rcases h with ⟨h,_⟩ | ⟨g,cs,rfl,h2,h3,h4,h5,h6⟩
 ·cases h
 have r0:=h6 0 (by omega)
 have r1:=h6 1 (by omega)
 have e:=rows2 h5
 obtain ⟨l0,_,t0⟩:=r0.c1
 obtain ⟨l1,_,t1⟩:=r1.c1
 obtain ⟨x1,x2,x3,x4,x5,ex⟩:=five l0
 obtain ⟨y1,y2,y3,y4,y5,ey⟩:=five l1
 rw [ex] at t0 r0 e
 rw [ey] at t1 r1 e
 rw [e] at h4
 refine ⟨g,x1,x2,x3,x4,x5,y1,y2,y3,y4,y5,J,h2,h3,t0,t1,h4,.inr ⟨g,_,J,h2,h3,upd_same _ _ _,J,fun i hi=>?_⟩⟩
 have hm:∀ t,b ≤ t ∧ t < g → upd (upd S.mu g (some [y1,y2,y3,y4,y5,y1,y2,y3,y4,y5])) g (some [y1,y2,y3,y4,y5,x1,x2,x3,x4,x5]) t=S.mu t:=fun t ht=>by rw [upd_ne _ _ (by omega),upd_ne _ _ (by omega)]
 rcases i with _ | _ | i
 ·exact (ON.m k).mono (fun _ h=>h) hm r1
 ·exact (ON.m k).mono (fun _ h=>h) hm r0
 omega
theorem notT_c (a:Bool) (s:Sg) (hD:DQ s):HC p N71_ [B a] s (fun r s'=>∃ v,r=[v] ∧ RT 1 BR s s' v):=by
 refine hcf J f71_ J ?_
 simp only [chainOf]
 refine er (qp J (qn (kq1 J) kn (er (pq3 J (qn (kq1 J) kn (eret (fqr J ?_)))))))
 exact ⟨_,rfl,rfl,rfl,⟨_,rfl⟩,ExtM.refl _⟩
theorem argT_c (a:Arg) (s:Sg) (hD:DQ s):HC p N26_ [.agg [I a.ty,B a.co]] s (fun r s'=>∃ v,r=[v] ∧ RT 2 AR s s' v):=by
 refine hcf J f26_ J ?_
 simp only [chainOf]
 refine er (hbox (dc dn J) J (lq2 J) (hal (dq2 J) (qn (kq2 J) (kq2 J) (er (pq5 J (hbuild J J (lq2 J) (hstl J J J J (Nlb J) (lq2 J) (qn (kq1 J) (kq1 J) (eret (fqr J ?_))))))))))
 exact ⟨_,rfl,rfl,rfl,⟨_,_,rfl⟩,ExtM.refl _⟩
theorem fill7 {a b:AV} {r:List AV} (ha:a.cells=[a]) (hb:b.cells=[b]) (hr:r.length=5):fillA [.slice .full 1 [],.slice .full 1 [],.lit (.int .i64 0),.lit (.int .i64 0),.lit (.int .i64 0),.slice .full 5 [],.slice .full 7 []] [(0,1,a),(1,1,b),(2,5,.agg r)]=some (a :: b :: r):=by
 obtain ⟨r1,r2,r3,r4,r5,rfl⟩:=five hr
 have h5:(AV.agg [r1,r2,r3,r4,r5]).cells=[r1,r2,r3,r4,r5]:=rfl
 simp [fillA,ha,hb,h5]
theorem fill8 {n a b:AV} {r:List AV} (hn:n.cells=[n]) (ha:a.cells=[a]) (hb:b.cells=[b]) (hr:r.length=5):fillA [.lit (.string ⟨#[]⟩),.slice .full 2 [],.slice .full 1 [],.lit (.int .i64 0),.lit (.int .i64 0),.lit (.int .i64 0),.slice .full 5 [],.slice .full 7 []] [(0,1,n),(1,1,a),(2,1,b),(3,5,.agg r)]=some (n :: a :: b :: r):=by
 obtain ⟨r1,r2,r3,r4,r5,rfl⟩:=five hr
 have h5:(AV.agg [r1,r2,r3,r4,r5]).cells=[r1,r2,r3,r4,r5]:=rfl
 simp [fillA,hn,ha,hb,h5]
theorem fill2 {n:ByteArray} {a:AV} (ha:a.cells=[a]):fillA [.lit (.string ⟨#[]⟩),.slice .full 2 []] [(0,1,Str n),(1,1,a)]=some [Str n,a]:=by
 have hn:(Str n).cells=[Str n]:=rfl
 simp [fillA,ha,hn]
theorem fill3 {n:ByteArray} {b:Bool} {a:AV} (ha:a.cells=[a]):fillA [.lit (.string ⟨#[]⟩),.lit (.bool false),.slice .full 2 []] [(0,1,Str n),(1,1,B b),(2,1,a)]=some [Str n,B b,a]:=by
 have hn:(Str n).cells=[Str n]:=rfl
 have hb:(B b).cells=[B b]:=rfl
 simp [fillA,ha,hn,hb]
theorem fillC {a b:AV} (ha:a.cells=[a]) (hb:b.cells=[b]):fillA [.slice .full 3 [],.slice .full 8 []] [(0,1,a),(1,1,b)]=some [a,b]:=by
 simp [fillA,ha,hb]
theorem RT.agg5 {k:Nat} {s s':Sg} {v:AV} (h:RT 5 (ON k) s s' v):∃ r,v=.agg r ∧ r.length=5:=by
 have h1:=h.len
 cases v with
 | agg r=>exact ⟨r,rfl,h1⟩
 | _=>simp [AV.cells] at h1
theorem dbranchT_c (b:Br) (k:Nat) (hv:b.vars.length ≤ 2 ^ 30) (hc:b.co.length ≤ 2 ^ 30) (H:NodeT k b.body) (s:Sg) (hD:DQ s):HC p N69_ [.agg (ints b.vars :: bools b.co :: b.body.cs)] s (fun r s'=>∃ v,r=[v] ∧ RT 7 (OB k) s s' v):=by
 refine hcf J f69_ J ?_
 simp only [chainOf]
 refine er (hbox (dc dn J) J (lq7 J) (hal (dq2 J) (qn (kq2 J) (kq2 J) (er (pq2 J (hcall J J J (cloneT_c _ b.vars (by omega)) ?_))))))
 rintro _ S0 ⟨o0,rfl,hA0,hE0⟩
 obtain ⟨c00,c01,c02,c03⟩:=hA0.c1
 refine pq2 J (hcall J J J (eachboolT_c b.co N71_ (fun a _ s hs=>notT_c a s hs) (by omega) _ (hD.ext hE0)) ?_)
 rintro _ S1 ⟨o1,rfl,hA1,hE1⟩
 obtain ⟨c10,c11,c12,c13⟩:=hA1.c1
 refine qp J (hlda J J (lq5 J) (hcall J J J (H _ ((hD.ext hE0).ext hE1)) ?_))
 rintro _ S2 ⟨v2,rfl,hR2⟩
 obtain ⟨r2,rfl,hl2⟩:=hR2.agg5
 obtain ⟨r21,r22,r23,r24,r25,rfl⟩:=five hl2
 have e2:=ON.c1 hR2.row
 refine hbuild J (fill7 c00 c10 hl2) J (hstl J J J J (Nlb J) (lq7 J) (qn (kq1 J) (kq1 J) (eret (fqr J ?_))))
 have e3:=e2.2.1
 simp only [AV.cells,AV.ers,AV.er,List.cons.injEq,and_true] at e3
 obtain ⟨q1,q2,q3,q4,q5⟩:=e3
 refine ⟨.agg [o0,o1,r21,r22,r23,r24,r25],?_,?_,J,⟨o0,o1,_,J,?_,?_,?_⟩,(hE0.trans hE1).trans hR2.ext⟩
 ·show [AV.agg (AV.ers [_,_,_,_,_,_,_])]=_
  simp only [AV.ers,AV.er,c02,c12,q1,q2,q3,q4,q5]
 ·simp only [AV.ers,AV.er,c02,c12,q1,q2,q3,q4,q5]
 ·exact ((hA0.mono IR.m (hE1.trans hR2.ext)).tl IR.m (Nat.le_refl _) (by omega))
 ·exact ((hA1.mono BR.m hR2.ext).tl BR.m hE0.mn (by omega))
 exact (ON.m k).mono (ExtM.mkX (Nat.le_trans hE0.mn hE1.mn) (Nat.le_refl _)) (fun _ _=>rfl) hR2.row
theorem nodeT_c0 (a:Node) (k:Nat) (ho0:0 ≤ a.op) (ho1:a.op ≤ 14) (h9:a.op=9 → a.args.length=2) (ha:a.args.length ≤ 2 ^ 30) (hb:a.brs.length ≤ 2 ^ 30) (H1:∀ b ∈ a.args,NodeT k b) (H2:∀ b ∈ a.brs,BrT k b) (s:Sg) (hD:DQ s):HC p N30_ [.agg a.cs] s (fun r s'=>∃ v,r=[v] ∧ RT 5 (ON (k + 1)) s s' v):=by
 refine hcf J f30_ J ?_
 simp only [chainOf]
 refine er (hbox (dc dn rfl) rfl (lq5 rfl) (hal (dq2 rfl) (qn (kq2 rfl) (kq2 rfl) (eseq (ereg_1 (dq2 rfl) (pq2 rfl (hwop rfl (gad_c hD ho0 ho1) (hldc rfl (dual_at ho0 ho1) (pq6 rfl (hcallq rfl rfl rfl (eachNodeT_c k a.args N30_ (fun b hb s hs=>H1 b hb s hs) ha _ hD) (by rintro _ _ ⟨_,_,_,hE⟩;exact hE.e.Q) ?_))))))))))
 rintro _ S1 ⟨out,rfl,hA,hE1⟩
 obtain ⟨hc1,hc2,hc3,hc4⟩:=hA.c1
 refine hbuild J (fill_out hc1) J (hal (dq14 J) (hstl J J J J (Nlb J) (lq5 J) (qn (kq3 J) (kq3 J) (eseq (er (pq3 J (qb ?_)))))))
 rintro (_ | _) h1
 ·have hA5:=hA
  have hE5:=hE1
  refine qn (kq4 J) (kq3 J) (ecF J (eskip (sqn (er (pq2 J (hcall J J J (eachBranchT_c k a.brs N69_ (fun b hb s hs=>H2 b hb s hs) hb _ (hD.ext hE5)) ?_))))))
  rintro _ S6 ⟨o6,rfl,hA6,hE6⟩
  obtain ⟨d1,d2,d3,d4⟩:=hA6.c1
  refine qp rfl (hstl (cs':=[I (dualOp a.op),I a.n,I a.ty,out,o6]) rfl rfl rfl (by rw [d1];rfl) (by rw [d1];exact Nlb rfl) (by rw [d1];rfl) (qk (kc rfl (kc rfl kn)) (kc rfl (kc rfl kn)) (sqn (eseq (ereg (hlda rfl rfl (lc rfl (lc rfl (lc rfl (lc rfl (lc rfl (ln rfl)))))) (hstl rfl rfl rfl rfl (Nlb rfl) (lc rfl (lc rfl (lc rfl (lc rfl (lc rfl (ln rfl)))))) (qk (kc rfl kn) (kc rfl kn) (sqn (eret (fqr rfl ?_)))))))))))
  refine ⟨.agg [I (dualOp a.op),I a.n,I a.ty,out,o6],?_,?_,J,?_,hE5.trans hE6⟩
  ·show [AV.agg (AV.ers [_,_,_,_,_])]=_
   simp only [AV.ers,AV.er,d3,hc3]
  ·simp only [AV.ers,AV.er,d3,hc3]
  exact ON.mk ((hA5.mono (ON.m k) hE6).tl (ON.m k) (Nat.le_refl _) (by omega)) (hA6.tl (OB.m k) hE5.mn (by omega))
 refine qn (kq4 J) (kq3 J) (ecT J (ereg (qp J ?_)))
 have hl2:a.args.length=2:=by simpa using h9 (by simpa using h1)
 rw [hl2] at hA
 obtain ⟨g,x1,x2,x3,x4,x5,y1,y2,y3,y4,y5,rfl,hb1,hb2,ex,ey,hg,hA2⟩:=hA.rev (S0:=s)
 refine qp J (hcall J J J (ReverseT_c _ g x1 x2 x3 x4 x5 y1 y2 y3 y4 y5 ex ey hg) ?_)
 rintro _ S2 ⟨rfl,hS2⟩
 rw [← hS2] at hA2
 have hA5:=hA2
 have hE5:ExtM s S2:=by
  rw [hS2]
  exact mu_back hE1 hb1
 refine qn (kq3 J) (kq3 J) (er (pq2 J (hcall J J J (eachBranchT_c k a.brs N69_ (fun b hb s hs=>H2 b hb s hs) hb _ (hD.ext hE5)) ?_)))
 rintro _ S6 ⟨o6,rfl,hA6,hE6⟩
 obtain ⟨d1,d2,d3,d4⟩:=hA6.c1
 refine qp rfl (hstl (cs':=[I (dualOp a.op),I a.n,I a.ty,.ms g 0 2 5,o6]) rfl rfl rfl (by rw [d1];rfl) (by rw [d1];exact Nlb rfl) (by rw [d1];rfl) (qk (kc rfl (kc rfl kn)) (kc rfl (kc rfl kn)) (sqn (eseq (ereg (hlda rfl rfl (lc rfl (lc rfl (lc rfl (lc rfl (lc rfl (ln rfl)))))) (hstl rfl rfl rfl rfl (Nlb rfl) (lc rfl (lc rfl (lc rfl (lc rfl (lc rfl (ln rfl)))))) (qk (kc rfl kn) (kc rfl kn) (sqn (eret (fqr rfl ?_)))))))))))
 refine ⟨.agg [I (dualOp a.op),I a.n,I a.ty,.ms g 0 2 5,o6],?_,?_,J,?_,hE5.trans hE6⟩
 ·show [AV.agg (AV.ers [_,_,_,_,_])]=_
  simp only [AV.ers,AV.er,d3,hc3]
 ·simp only [AV.ers,AV.er,d3,hc3]
 exact ON.mk ((hA5.mono (ON.m k) hE6).tl (ON.m k) (Nat.le_refl _) (by omega)) (hA6.tl (OB.m k) hE5.mn (by omega))
theorem nodeT_c (ds:List Decl) (fs:List CFun) (a:Node):∀ {X A:Int → Bool},vN ds fs a X A=true → a.sz ≤ 2 ^ 30 → ∀ k,a.sz ≤ k → NodeT k a:=by
 induction a using Node.ind with
 | h a ih1 ih2 =>
   intro X A hv hz k hk
   obtain ⟨p1,p2,want,xs,hh,_⟩:=vN_parts hv
   obtain ⟨o0,o1⟩:=head_op hh
   have h0:=a.sz_args
   cases k with
   | zero=>omega
   | succ k =>
     intro s hD
     refine nodeT_c0 a k o0 o1 (len9 hv) (by omega) (by have:=a.sz_brs;omega) (fun b hb=>?_) (fun b hb=>?_) s hD
     ·obtain ⟨_,_,h⟩:=p1 b hb
      have:=Node.sz_arg hb
      exact ih1 b hb h (by omega) k (by omega)
     obtain ⟨_,_,h⟩:=p2 b hb
     have h1:=Node.sz_br hb
     have h2:=b.sz_body
     have h3:=b.sz_vars
     have h4:=b.sz_co
     intro s hD
     exact dbranchT_c b k (by omega) (by omega) (ih2 b hb h (by omega) k (by omega)) s hD
theorem dxtorT_c (x:Xtor) (hx:x.args.length ≤ 2 ^ 30) (s:Sg) (hD:DQ s):HC p N24_ [.agg [Str x.name,encArgs x.args]] s (fun r s'=>∃ v,r=[v] ∧ RT 2 OX s s' v):=by
 refine hcf J f24_ J ?_
 simp only [chainOf]
 refine er (hbox (dc dn J) J (lq2 J) (hal (dq2 J) (qn (kq2 J) (kq2 J) (er (pq4 J (hcall J J J (eachArgT_c x.args N26_ (fun a _ s hs=>argT_c a s hs) hx _ hD) ?_))))))
 rintro _ S1 ⟨o1,rfl,hA,hE⟩
 obtain ⟨c1,c2,c3,c4⟩:=hA.c1
 refine hbuild rfl (fill2 (n:=x.name) c1) rfl (hstl rfl rfl rfl rfl (Nlb rfl) (lc rfl (lc rfl (ln rfl))) (qk (kc rfl kn) (kc rfl kn) (sqn (eret (fqr rfl ?_)))))
 refine ⟨.agg [Str x.name,o1],?_,?_,J,⟨_,_,J,hA.tl AR.m (Nat.le_refl _) (by omega)⟩,hE⟩
 ·show [AV.agg (AV.ers [_,_])]=_
  simp only [AV.ers,AV.er,c3]
 simp only [AV.ers,AV.er,c3]
theorem ddeclT_c (d:Decl) (hd:d.xtors.length ≤ 2 ^ 30) (hx:∀ x ∈ d.xtors,x.args.length ≤ 2 ^ 30) (s:Sg) (hD:DQ s):HC p N22_ [.agg [Str d.name,B d.codata,SL 2 (d.xtors.map Xtor.enc)]] s (fun r s'=>∃ v,r=[v] ∧ RT 3 OD s s' v):=by
 refine hcf J f22_ J ?_
 simp only [chainOf]
 refine er (hbox (dc dn J) J (lq3 J) (hal (dq2 J) (qn (kq2 J) (kq2 J) (er (pq6 J (qp J (hcall J J J (eachXtorT_c d.xtors N24_ (fun x hm s hs=>dxtorT_c x (hx x hm) s hs) hd _ hD) ?_)))))))
 rintro _ S1 ⟨o1,rfl,hA,hE⟩
 obtain ⟨c1,c2,c3,c4⟩:=hA.c1
 refine hbuild rfl (fill3 (n:=d.name) c1) rfl (hstl rfl rfl rfl rfl (Nlb rfl) (lc rfl (lc rfl (lc rfl (ln rfl)))) (qk (kc rfl kn) (kc rfl kn) (sqn (eret (fqr rfl ?_)))))
 refine ⟨.agg [Str d.name,B (!d.codata),o1],?_,?_,J,⟨_,_,_,J,hA.tl OX.m (Nat.le_refl _) (by omega)⟩,hE⟩
 ·show [AV.agg (AV.ers [_,_,_])]=_
  simp only [AV.ers,AV.er,c3]
 simp only [AV.ers,AV.er,c3]
theorem dfunT_c (g:CFun) (k:Nat) (hp:g.params.length ≤ 2 ^ 30) (hv:g.vars.length ≤ 2 ^ 40) (H:NodeT k g.body) (s:Sg) (hD:DQ s):HC p N28_ [.agg (Str g.name :: encArgs g.params :: ints g.vars :: g.body.cs)] s (fun r s'=>∃ v,r=[v] ∧ RT 8 OF s s' v):=by
 refine hcf J f28_ J ?_
 simp only [chainOf]
 refine er (hbox (dc dn J) J (lq8 J) (hal (dq2 J) (qn (kq2 J) (kq2 J) (er (pq4 J (hcall J J J (eachArgT_c g.params N26_ (fun a _ s hs=>argT_c a s hs) hp _ hD) ?_))))))
 rintro _ S1 ⟨o1,rfl,hA1,hE1⟩
 obtain ⟨c10,c11,c12,c13⟩:=hA1.c1
 refine pq2 J (hcall J J J (cloneT_c _ g.vars hv) ?_)
 rintro _ S0 ⟨o0,rfl,hA0,hE0⟩
 obtain ⟨c00,c01,c02,c03⟩:=hA0.c1
 refine qp J (hlda J J (lq5 J) (hcall J J J (H _ ((hD.ext hE1).ext hE0)) ?_))
 rintro _ S2 ⟨v2,rfl,hR2⟩
 obtain ⟨r2,rfl,hl2⟩:=hR2.agg5
 obtain ⟨r21,r22,r23,r24,r25,rfl⟩:=five hl2
 have e2:=ON.c1 hR2.row
 refine hbuild rfl (fill8 (n:=Str g.name) rfl c10 c00 hl2) rfl (hstl rfl rfl rfl rfl (Nlb rfl) (lc rfl (lc rfl (lc rfl (lc rfl (lc rfl (lc rfl (lc rfl (lc rfl (ln rfl))))))))) (qk (kc rfl kn) (kc rfl kn) (sqn (eret (fqr rfl ?_)))))
 have e3:=e2.2.1
 simp only [AV.cells,AV.ers,AV.er,List.cons.injEq,and_true] at e3
 obtain ⟨q1,q2,q3,q4,q5⟩:=e3
 refine ⟨.agg [Str g.name,o1,o0,r21,r22,r23,r24,r25],?_,?_,J,⟨_,o1,o0,_,k,J,?_,?_,?_⟩,(hE1.trans hE0).trans hR2.ext⟩
 ·show [AV.agg (AV.ers [_,_,_,_,_,_,_,_])]=_
  simp only [AV.ers,AV.er,c02,c12,q1,q2,q3,q4,q5]
 ·simp only [AV.ers,AV.er,c02,c12,q1,q2,q3,q4,q5]
 ·exact ((hA1.mono AR.m (hE0.trans hR2.ext)).tl AR.m (Nat.le_refl _) (by omega))
 ·exact ((hA0.mono IR.m hR2.ext).tl IR.m hE1.mn (by omega))
 exact (ON.m k).mono (ExtM.mkX (Nat.le_trans hE1.mn hE0.mn) (Nat.le_refl _)) (fun _ _=>rfl) hR2.row
theorem DualT_c (s:Sg) (hQ:QOK s) (hD:DQ s) (c:Core) (hc:CoreSz c) (hdl:c.decls.length ≤ 2 ^ 30) (hxl:∀ d ∈ c.decls,d.xtors.length ≤ 2 ^ 30) (hxa:∀ d ∈ c.decls,∀ x ∈ d.xtors,x.args.length ≤ 2 ^ 30) (hfl:c.funs.length ≤ 2 ^ 30) (hfp:∀ g ∈ c.funs,g.params.length ≤ 2 ^ 30) (hfv:∀ g ∈ c.funs,g.vars.length ≤ 2 ^ 40) (hbz:∀ g ∈ c.funs,g.body.sz ≤ 2 ^ 30):HC p N9_ [.agg (Core.cs c)] s (fun r s'=>∃ d f:AV,∃ e:Int,r=[.agg [d,f],I e] ∧ d.erT=d ∧ f.erT=f ∧ Ext s s' ∧ (e=0 → OL 3 OD (fun _=>True) d s' ∧ OL 8 OF (fun _=>True) f s')):=by
 refine hcf J f9_ J ?_
 simp only [chainOf]
 refine er (hbox (dc dn J) J (lq2 J) (hal (dq2 J) (qp J (qn (kq2 J) (kq2 J) (eseq (er (hlda J J (lq2 J) (hcall J J J (cValid_c _ hQ c hc hfv (fun g hg=>Nat.le_trans (hbz g hg) (by decide))) ?_))))))))
 rintro _ S1 ⟨rfl,hE⟩
 refine qb ?_
 rintro (_ | _) h1
 refine qp J (qn (kq3 J) (kq2 J) (ecT J (er (hbuild J J (lq2 J) (hstl J J J J (Nlb J) (lq2 J) (qp J (qn (kq2 J) (kq1 J) (eret (sqr (fqr J ?_))))))))))
 rotate_left
 refine qp J (qn (kq3 J) (kq2 J) (ecF J (eskip (sqn (eseq (er (hlda J J (lq2 J) (hcall J J J (isPure_c _ c hc (fun d hd=>Nat.le_trans (hxl d hd) (by decide)) (by omega) (by simp_all) (fun g hg=>Nat.le_trans (hbz g hg) (by decide))) ?_))))))))
 rintro _ _ ⟨rfl,rfl⟩
 refine qb ?_
 rintro (_ | _) h2
 refine qp J (qn (kq3 J) (kq2 J) (ecT J (er (hbuild J J (lq2 J) (hstl J J J J (Nlb J) (lq2 J) (qp J (qn (kq2 J) (kq1 J) (eret (sqr (fqr J ?_))))))))))
 rotate_left
 refine qp J (qn (kq3 J) (kq2 J) (ecF J (eskip (sqn (eseq (ereg_1 (dq3 J) (pq2 J (hcall J J J (eachDeclT_c c.decls N22_ (fun d hm s hs=>ddeclT_c d (hxl d hm) (hxa d hm) s hs) hdl _ (hD.e hE)) ?_))))))))
 rintro _ S2 ⟨o2,rfl,hA2,hE2⟩
 obtain ⟨c20,c21,c22,c23⟩:=hA2.c1
 refine pq2 J (hcall J J J (eachCoreFunT_c c.funs N28_ (fun g hm s hs=>dfunT_c g g.body.sz (hfp g hm) (hfv g hm) (nodeT_c _ _ _ (core_body (by simp_all) g hm).2.2.2 (hbz g hm) _ (Nat.le_refl _)) s hs) hfl _ ((hD.e hE).ext hE2)) ?_)
 rintro _ S3 ⟨o3,rfl,hA3,hE3⟩
 obtain ⟨c30,c31,c32,c33⟩:=hA3.c1
 refine hbuild J (fillC c20 c30) J (hal (dq10 J) (hstl J J J J (Nlb J) (lq2 J) (qn (kq2 J) (kq2 J) (er (hlda J J (lq2 J) (hstl J J J J (Nlb J) (lq2 J) (qp J (qn (kq2 J) (kq1 J) (eret (fqr J ?_))))))))))
 rotate_left
 all_goals
  first
  | exact ⟨_,_,_,rfl,rfl,rfl,hE,fun h=>absurd h (by decide)⟩
  | (refine ⟨o2,o3,0,?_,c21,c31,hE.trans (hE2.e.trans hE3.e),fun _=>⟨((hA2.mono OD.m hE3).tl OD.m (Nat.zero_le _) (by omega)).mono OD.m (fun _ _=>trivial) (fun _ _=>rfl),(hA3.tl OF.m (Nat.zero_le _) (by omega)).mono OF.m (fun _ _=>trivial) (fun _ _=>rfl)⟩⟩;show [AV.agg (AV.ers [_,_]),_]=_;simp only [AV.ers,AV.er,c22,c32])
end Go.Sim.Kd
namespace Go.Sim.Kd
open Go Go.Sim
def lenV:AV → Nat
 | .slice _ _ xs=>xs.length
 | .ms _ _ len _=>len
 | _=>0
theorem OL.bd {sz:Nat} {Q:TK → List AV → Sg → Prop} {X:TK} {v:AV} {S:Sg} (h:OL sz Q X v S):lenV v ≤ 2 ^ 50:=by
 rcases h with rfl | ⟨g,len,cs,rfl,_,_,h,_⟩
 ·exact Nat.zero_le _
 exact h.2
theorem OL.len {sz:Nat} {Q:TK → List AV → Sg → Prop} {X:TK} {v:AV} {S:Sg} (h:OL sz Q X v S):lenOfA false v=some (I (lenV v)):=by
 rcases h with rfl | ⟨g,len,cs,rfl,_⟩ <;> rfl
theorem hlenO {c:Caller} {l:List AIns} {E:Nat → Option TV} {L:Nat → Option (List AV)} {n:Nat} {v:Nat → Bool} {D:List (Nat × List AV)} {S:Sg} {Q:Fr → Prop} {d:Nat} {x:AO} {y r:AV} (h1:evV E x=some y) (h2:lenOfA false y=some r)
 (k:HL c l ⟨upd E d (some (.val r)),L,n,v,D,S⟩ Q):HL c (⟨some d,none,.len false x⟩ :: l) ⟨E,L,n,v,D,S⟩ Q :=
 hop (by simp only [ins,run1,aop,h1,h2,Obs];rfl) k
def El (sz off:Nat) (v:AV) (i:Nat) (w:AV) (S:Sg):Prop:=∃ g cs,v=.ms g 0 (lenV v) sz ∧ i < lenV v ∧ S.mu g=some cs ∧ cs[0 + i * sz + off]?=some w
theorem El.sc {sz off i:Nat} {v w:AV} {S S':Sg} (h:El sz off v i w S) (k:Sc S S') (hw:∀ b,CR w b → b=w):El sz off v i w S':=by
 obtain ⟨g,cs,e,l,m,a⟩:=h
 obtain ⟨cs',k1,k2⟩:=k.mu g cs m
 obtain ⟨b,h1,h2⟩:=k2.at_ _ _ a
 rw [hw b h2] at h1
 exact ⟨g,cs',e,l,k1,h1⟩
theorem El.put {sz off i g:Nat} {v w b:AV} {S:Sg} {cs:List AV} (m:S.mu g=some cs) (a:cs[0 + i * sz + off]?=some w) (h:CR w b):Sc S { S with mu:=upd S.mu g (some (wr cs (0 + i * sz + off) [b])) }:=Sc.put m (SR.put1 a h)
def NP (g off:Nat) (a b:AV) (S:Sg):Prop:=∃ cs,∃ o m t:Int,S.mu g=some cs ∧ cs[off]?=some (I o) ∧ cs[off + 1]?=some (I m) ∧ cs[off + 2]?=some (I t) ∧ cs[off + 3]?=some a ∧ cs[off + 4]?=some b
theorem CR.int {x:Int} {b:AV} (h:CR (I x) b):∃ y,b=I y:=h.i
theorem NP.sc {g off:Nat} {a b:AV} {S S':Sg} (h:NP g off a b S) (k:Sc S S') (ha:∀ c,CR a c → c=a) (hb:∀ c,CR b c → c=b):NP g off a b S':=by
 obtain ⟨cs,o,m,t,hm,h0,h1,h2,h3,h4⟩:=h
 obtain ⟨cs',k1,k2⟩:=k.mu g cs hm
 obtain ⟨b0,p0,q0⟩:=k2.at_ _ _ h0
 obtain ⟨b1,p1,q1⟩:=k2.at_ _ _ h1
 obtain ⟨b2,p2,q2⟩:=k2.at_ _ _ h2
 obtain ⟨b3,p3,q3⟩:=k2.at_ _ _ h3
 obtain ⟨b4,p4,q4⟩:=k2.at_ _ _ h4
 obtain ⟨y0,rfl⟩:=q0.i
 obtain ⟨y1,rfl⟩:=q1.i
 obtain ⟨y2,rfl⟩:=q2.i
 rw [ha _ q3] at p3
 rw [hb _ q4] at p4
 exact ⟨cs',_,_,_,k1,p0,p1,p2,p3,p4⟩
theorem rowAt_get {sz i k:Nat} {cs r:List AV} {w:AV} (h:rowAt sz cs i=r) (hw:r[k]?=some w):cs[0 + i * sz + k]?=some w:=by
 have hk:k < r.length:=by
  rcases Nat.lt_or_ge k r.length with h' | h'
  ·exact h'
  rw [List.getElem?_eq_none h'] at hw;cases hw
 subst h
 unfold rowAt at hw hk
 rw [List.length_take,List.length_drop] at hk
 rw [List.getElem?_take,if_pos (by omega),List.getElem?_drop] at hw
 rw [Nat.zero_add]
 exact hw
theorem OL.at_ {sz:Nat} {Q:TK → List AV → Sg → Prop} {X:TK} {v:AV} {S:Sg} (h:OL sz Q X v S) {i:Nat} (hi:i < lenV v):∃ g cs,v=.ms g 0 (lenV v) sz ∧ S.mu g=some cs ∧ Q X (rowAt sz cs i) S:=by
 rcases h with rfl | ⟨g,len,cs,rfl,h2,h3,h4,h5⟩
 ·exact absurd hi (Nat.not_lt_zero _)
 exact ⟨g,cs,rfl,h3,h5 i hi⟩
theorem OL.crA {sz:Nat} {Q:TK → List AV → Sg → Prop} {X:TK} {v:AV} {S:Sg} (h:OL sz Q X v S):∀ c,CR v c → c=v:=fun _ k=>h.cr k
theorem OL.int {X:TK} {v:AV} {S:Sg} (h:OL 1 IR X v S) {i:Nat} (hi:i < lenV v):∃ x,El 1 0 v i (I x) S:=by
 obtain ⟨g,cs,e,m,x,hx⟩:=h.at_ hi
 exact ⟨x,g,cs,e,hi,m,rowAt_get hx rfl⟩
theorem OL.bool {X:TK} {v:AV} {S:Sg} (h:OL 1 BR X v S) {i:Nat} (hi:i < lenV v):∃ x,El 1 0 v i (B x) S:=by
 obtain ⟨g,cs,e,m,x,hx⟩:=h.at_ hi
 exact ⟨x,g,cs,e,hi,m,rowAt_get hx rfl⟩
theorem OL.arg {X:TK} {v:AV} {S:Sg} (h:OL 2 AR X v S) {i:Nat} (hi:i < lenV v):∃ x,El 2 0 v i (I x) S:=by
 obtain ⟨g,cs,e,m,x,b,hx⟩:=h.at_ hi
 exact ⟨x,g,cs,e,hi,m,rowAt_get hx rfl⟩
theorem OL.xtor {X:TK} {v:AV} {S:Sg} (h:OL 2 OX X v S) {i:Nat} (hi:i < lenV v):∃ nm a,El 2 0 v i (Str nm) S ∧ El 2 1 v i a S ∧ OL 2 AR X a S:=by
 obtain ⟨g,cs,e,m,nm,a,hx,ho⟩:=h.at_ hi
 exact ⟨nm,a,⟨g,cs,e,hi,m,rowAt_get hx rfl⟩,⟨g,cs,e,hi,m,rowAt_get hx rfl⟩,ho⟩
theorem OL.decl {X:TK} {v:AV} {S:Sg} (h:OL 3 OD X v S) {i:Nat} (hi:i < lenV v):∃ a,El 3 2 v i a S ∧ OL 2 OX X a S:=by
 obtain ⟨g,cs,e,m,nm,b,a,hx,ho⟩:=h.at_ hi
 exact ⟨a,⟨g,cs,e,hi,m,rowAt_get hx rfl⟩,ho⟩
theorem ON.np {n:Nat} {X:TK} {r cs:List AV} {S:Sg} {g off:Nat} (h:ON n X r S) (hg:S.mu g=some cs) (hr:∀ k w,r[k]?=some w → cs[off + k]?=some w):∃ m a b,m < n ∧ NP g off a b S ∧ OL 5 (ON m) X a S ∧ OL 7 (OB m) X b S:=by
 cases n with
 | zero=>exact h.elim
 | succ n =>
   obtain ⟨o,m,t,a,b,rfl,h1,h2⟩:=h
   exact ⟨n,a,b,Nat.lt_succ_self _,⟨cs,o,m,t,hg,hr 0 _ rfl,hr 1 _ rfl,hr 2 _ rfl,hr 3 _ rfl,hr 4 _ rfl⟩,h1,h2⟩
theorem OL.node {n:Nat} {X:TK} {v:AV} {S:Sg} (h:OL 5 (ON n) X v S) {i:Nat} (hi:i < lenV v):∃ g m a b,v=.ms g 0 (lenV v) 5 ∧ m < n ∧ NP g (0 + i * 5) a b S ∧ OL 5 (ON m) X a S ∧ OL 7 (OB m) X b S:=by
 obtain ⟨g,cs,e,hm,hx⟩:=h.at_ hi
 obtain ⟨m,a,b,q⟩:=hx.np (off:=0 + i * 5) hm fun k w hw=>rowAt_get rfl hw
 exact ⟨g,m,a,b,e,q⟩
theorem OL.branch {n:Nat} {X:TK} {v:AV} {S:Sg} (h:OL 7 (OB n) X v S) {i:Nat} (hi:i < lenV v):∃ g vs co m a b,v=.ms g 0 (lenV v) 7 ∧ El 7 0 v i vs S ∧ El 7 1 v i co S ∧ OL 1 IR X vs S ∧ OL 1 BR X co S ∧ m < n ∧ NP g (0 + i * 7 + 2) a b S ∧ OL 5 (ON m) X a S ∧ OL 7 (OB m) X b S:=by
 obtain ⟨g,cs,e,hm,vs,co,r5,hx,h1,h2,h3⟩:=h.at_ hi
 obtain ⟨m,a,b,q⟩:=h3.np (off:=0 + i * 7 + 2) hm fun k w hw=>by
  have:=rowAt_get hx (k:=k + 2) (w:=w) hw
  rw [show 0 + i * 7 + 2 + k=0 + i * 7 + (k + 2) by omega]
  exact this
 exact ⟨g,vs,co,m,a,b,e,⟨g,cs,e,hi,hm,rowAt_get hx rfl⟩,⟨g,cs,e,hi,hm,rowAt_get hx rfl⟩,h1,h2,q⟩
theorem OL.fun_ {X:TK} {v:AV} {S:Sg} (h:OL 8 OF X v S) {i:Nat} (hi:i < lenV v):∃ g pa va m a b,v=.ms g 0 (lenV v) 8 ∧ El 8 1 v i pa S ∧ El 8 2 v i va S ∧ OL 2 AR X pa S ∧ OL 1 IR X va S ∧ NP g (0 + i * 8 + 3) a b S ∧ OL 5 (ON m) X a S ∧ OL 7 (OB m) X b S:=by
 obtain ⟨g,cs,e,hm,nm,pa,va,r5,n,hx,h1,h2,h3⟩:=h.at_ hi
 obtain ⟨m,a,b,_,q⟩:=h3.np (off:=0 + i * 8 + 3) hm fun k w hw=>by
  have:=rowAt_get hx (k:=k + 3) (w:=w) hw
  rw [show 0 + i * 8 + 3 + k=0 + i * 8 + (k + 3) by omega]
  exact this
 exact ⟨g,pa,va,m,a,b,e,⟨g,cs,e,hi,hm,rowAt_get hx rfl⟩,⟨g,cs,e,hi,hm,rowAt_get hx rfl⟩,h1,h2,q⟩
def ScrubC (n:Nat):Prop:=∀ (X:TK) (g off:Nat) (a b:AV) (s:Sg),NP g off a b s → OL 5 (ON n) X a s → OL 7 (OB n) X b s → HC p N48_ [.mp g off] s (fun r s'=>r=[] ∧ Sc s s')
theorem Sc.of {S:Sg} {g:Nat} {cs cs':List AV} (hm:S.mu g=some cs) (h:SR cs cs'):Sc S { S with mu:=upd S.mu g (some cs') }:=Sc.put hm h
theorem wr_at {cs:List AV} {o:Nat} {a b:AV} (h:cs[o]?=some a):o + 1 ≤ cs.length:=by
 rcases Nat.lt_or_ge o cs.length with h' | h'
 ·exact h'
 rw [List.getElem?_eq_none h'] at h;cases h
theorem CR.ii (x y:Int):CR (I x) (I y):=.inl ⟨x,y,rfl,rfl⟩
theorem CR.bb (x y:Bool):CR (B x) (B y):=.inr (.inl ⟨x,y,rfl,rfl⟩)
theorem CR.ss (x y:ByteArray):CR (Str x) (Str y):=.inr (.inr (.inl ⟨x,y,rfl,rfl⟩))
theorem wr_ne {cs:List AV} {o k:Nat} {a b w:AV} (h:cs[o]?=some a) (hk:k ≠ o) (hw:cs[k]?=some w):(wr cs o [b])[k]?=some w:=by
 have ho:=wr_at (b:=b) h
 have e:wr cs o [b]=cs.set o b:=by
  unfold wr
  rw [List.set_eq_take_append_cons_drop,if_pos (by omega)]
  simp
 rw [e,List.getElem?_set,if_neg (Ne.symm hk)]
 exact hw
theorem scrub_l1 (N:Nat) (H:∀ m,m < N → ScrubC m) (X:TK) (S0:Sg) (g off:Nat) (a b:AV) (i:Nat) (hi:i ≤ lenV a) {n:Nat} {v:Nat → Bool} {D:List (Nat × List AV)} {S:Sg} {Q:Ex → Fr → Prop}
 (hN:NP g off a b S) (ha:OL 5 (ON N) X a S) (hb:OL 7 (OB N) X b S) (hS:Sc S0 S) (hX:∀ j S',NP g off a b S' → OL 5 (ON N) X a S' → OL 7 (OB N) X b S' → Sc S0 S' → Q (.exit 0) ⟨upd (upd (upd (upd ((fun _=>none)) 12 (some (.val (B false)))) 11 (some (.val (I j)))) 10 (some (.val (I (lenV a))))) 0 (some (.val (.mp g off))),(fun _=>none),n,v,D,S'⟩):EX (callL p) (.loop F48_l1) ⟨upd (upd (upd ((fun _=>none)) 11 (some (.val (I i)))) 10 (some (.val (I (lenV a))))) 0 (some (.val (.mp g off))),(fun _=>none),n,v,D,S⟩ Q:=by
 refine eloop (er (qp J (qb ?_)))
 rintro (_ | _) h1
 ·refine qn (kq4 J) kn (eseq (ecF J (eexit (sqx ?_))))
  exact hX _ _ hN ha hb hS
 refine qn (kq4 J) kn (eseq (ecT J (eskip (sqn (eseq (eblock (er (pq2 J (qn (kq4 J) kn (ereg ?_))))))))))
 have hlt:i < lenV a:=by simpa using h1
 have hbd:=ha.bd
 obtain ⟨g1,m1,a1,b1,e1,k1,k2,k3,k4⟩:=ha.node hlt
 have hN0:=hN
 obtain ⟨cs0,o0,m0,t0,n1,n2,n3,n4,n5,n6⟩:=hN
 refine pq3 J (hldm J n1 n5 (qp J (hiam (congrArg some e1) J (Int.natCast_nonneg _) hlt (hcall J J J (H m1 k1 X g1 _ a1 b1 _ k2 k3 k4) ?_))))
 rintro _ S1 ⟨rfl,hx⟩
 have hN:=hN0
 refine qk (kq3 J) kn (bqn (sqn (ereg (hadd J J (i64w (by omega)) (qp J (qk (kq3 J) kn ?_))))))
 exact scrub_l1 N H X S0 g off a b (i + 1) (by omega) (hN.sc hx ha.crA (OL.crA (Q:=OB N) hb)) (ha.sc (ON.s N) hx) (OL.sc (OB.s N) hx hb) (hS.trans hx) hX
termination_by lenV a - i
decreasing_by all_goals omega
theorem scrub_l3 (X:TK) (S0:Sg) (g off:Nat) (a b vs co:AV) (i:Nat) (hcra:∀ c,CR a c → c=a) (hcrb:∀ c,CR b c → c=b) (k:Nat) (hk:k ≤ lenV vs) {n:Nat} {v:Nat → Bool} {D:List (Nat × List AV)} {S:Sg} {Q:Ex → Fr → Prop}
 (hN:NP g off a b S) (hv:El 7 0 b i vs S) (hc:El 7 1 b i co S) (ov:OL 1 IR X vs S) (oc:OL 1 BR X co S) (hS:Sc S0 S) (hX:∀ j S',Sc S0 S' → Q (.exit 4) ⟨upd (upd (upd (upd (upd (upd (upd ((fun _=>none)) 48 (some (.val (B false)))) 47 (some (.val (I j)))) 46 (some (.val (I (lenV vs))))) 27 (some (.val (I i)))) 26 (some (.val (I (lenV b))))) 3 (some (.val (I i)))) 0 (some (.val (.mp g off))),(fun _=>none),n,v,D,S'⟩):EX (callL p) (.loop F48_l3) ⟨upd (upd (upd (upd (upd (upd ((fun _=>none)) 47 (some (.val (I k)))) 46 (some (.val (I (lenV vs))))) 27 (some (.val (I i)))) 26 (some (.val (I (lenV b))))) 3 (some (.val (I i)))) 0 (some (.val (.mp g off))),(fun _=>none),n,v,D,S⟩ Q:=by
 refine eloop (er (qp J (qb ?_)))
 rintro (_ | _) h1
 ·refine qn (kq7 J) kn (eseq (ecF J (eexit (sqx ?_))))
  exact hX _ _ hS
 refine qn (kq7 J) kn (eseq (ecT J (eskip (sqn (eseq (eblock (er (pq2 J (qn (kq7 J) kn (ereg ?_))))))))))
 have hlt:k < lenV vs:=by simpa using h1
 have hbd:=ov.bd
 obtain ⟨x2,g2,c2,e2,l2,m2,a2⟩:=ov.int hlt
 have hN0:=hN
 have hv0:=hv
 obtain ⟨cs0,o0,m0,t0,n1,n2,n3,n4,n5,n6⟩:=hN
 obtain ⟨g1,c1,e1,l1,m1,a1⟩:=hv
 have hx:=Sc.put m2 (SR.put1 a2 (CR.ii x2 (-5)))
 have hN:=hN0
 have hv:=hv0
 refine qp rfl (qp rfl (qp rfl (hldm rfl n1 n6 (qp rfl (hiam (congrArg some e1) rfl (Int.natCast_nonneg _) l1 (qp rfl (hldm rfl m1 a1 (qp rfl (hiam (congrArg some e2) rfl (Int.natCast_nonneg _) l2 (hstm (y:=I (-5)) rfl rfl m2 rfl (wr_at (b:=I (-5)) a2) (by simp) rfl (qk (kc rfl (kc rfl (kc rfl (kc rfl (kc rfl (kc rfl kn)))))) kn (bqn (sqn (ereg (hadd rfl rfl (i64w (by omega)) (qp rfl (qk (kc rfl (kc rfl (kc rfl (kc rfl (kc rfl (kc rfl kn)))))) kn ?_)))))))))))))))))
 exact scrub_l3 X S0 g off a b vs co i hcra hcrb (k + 1) (by omega) (hN.sc hx hcra hcrb) (hv.sc hx ov.crA) (hc.sc hx oc.crA) (ov.sc IR.s hx) (oc.sc BR.s hx) (hS.trans hx) hX
termination_by lenV vs - k
decreasing_by all_goals omega
theorem scrub_l4 (X:TK) (S0:Sg) (g off:Nat) (a b vs co:AV) (i:Nat) (hcra:∀ c,CR a c → c=a) (hcrb:∀ c,CR b c → c=b) (k:Nat) (hk:k ≤ lenV co) {n:Nat} {v:Nat → Bool} {D:List (Nat × List AV)} {S:Sg} {Q:Ex → Fr → Prop}
 (hN:NP g off a b S) (hv:El 7 0 b i vs S) (hc:El 7 1 b i co S) (ov:OL 1 IR X vs S) (oc:OL 1 BR X co S) (hS:Sc S0 S) (hX:∀ j S',Sc S0 S' → Q (.exit 6) ⟨upd (upd (upd (upd (upd (upd (upd ((fun _=>none)) 71 (some (.val (B false)))) 70 (some (.val (I j)))) 69 (some (.val (I (lenV co))))) 27 (some (.val (I i)))) 26 (some (.val (I (lenV b))))) 3 (some (.val (I i)))) 0 (some (.val (.mp g off))),(fun _=>none),n,v,D,S'⟩):EX (callL p) (.loop F48_l4) ⟨upd (upd (upd (upd (upd (upd ((fun _=>none)) 70 (some (.val (I k)))) 69 (some (.val (I (lenV co))))) 27 (some (.val (I i)))) 26 (some (.val (I (lenV b))))) 3 (some (.val (I i)))) 0 (some (.val (.mp g off))),(fun _=>none),n,v,D,S⟩ Q:=by
 refine eloop (er (qp J (qb ?_)))
 rintro (_ | _) h1
 ·refine qn (kq7 J) kn (eseq (ecF J (eexit (sqx ?_))))
  exact hX _ _ hS
 refine qn (kq7 J) kn (eseq (ecT J (eskip (sqn (eseq (eblock (er (pq2 J (qn (kq7 J) kn (ereg ?_))))))))))
 have hlt:k < lenV co:=by simpa using h1
 have hbd:=oc.bd
 obtain ⟨x2,g2,c2,e2,l2,m2,a2⟩:=oc.bool hlt
 have hN0:=hN
 have hc0:=hc
 obtain ⟨cs0,o0,m0,t0,n1,n2,n3,n4,n5,n6⟩:=hN
 obtain ⟨g1,c1,e1,l1,m1,a1⟩:=hc
 have hx:=Sc.put m2 (SR.put1 a2 (CR.bb x2 (!x2)))
 have hN:=hN0
 have hc:=hc0
 refine qp rfl (qp rfl (qp rfl (hldm rfl n1 n6 (qp rfl (hiam (congrArg some e1) rfl (Int.natCast_nonneg _) l1 (qp rfl (hldm rfl m1 a1 (qp rfl (qp rfl (qp rfl (qp rfl (hldm rfl n1 n6 (qp rfl (hiam (congrArg some e1) rfl (Int.natCast_nonneg _) l1 (qp rfl (hldm rfl m1 a1 (qp rfl (hiam (congrArg some e2) rfl (Int.natCast_nonneg _) l2 (hldm rfl m2 a2 (qp rfl (hiam (congrArg some e2) rfl (Int.natCast_nonneg _) l2 (hstm (y:=B (!x2)) rfl rfl m2 rfl (wr_at (b:=B (!x2)) a2) (by simp) rfl (qk (kc rfl (kc rfl (kc rfl (kc rfl (kc rfl (kc rfl kn)))))) kn ?_)))))))))))))))))))))))
 refine bqn (sqn (ereg (hadd J J (i64w (by omega)) (qp J (qk (kq6 J) kn ?_)))))
 exact scrub_l4 X S0 g off a b vs co i hcra hcrb (k + 1) (by omega) (hN.sc hx hcra hcrb) (hv.sc hx ov.crA) (hc.sc hx oc.crA) (ov.sc IR.s hx) (oc.sc BR.s hx) (hS.trans hx) hX
termination_by lenV co - k
decreasing_by all_goals omega
theorem scrub_l2 (N:Nat) (H:∀ m,m < N → ScrubC m) (X:TK) (S0:Sg) (g off:Nat) (a b:AV) (i:Nat) (hi:i ≤ lenV b) {n:Nat} {v:Nat → Bool} {D:List (Nat × List AV)} {S:Sg} {Q:Ex → Fr → Prop}
 (hN:NP g off a b S) (ha:OL 5 (ON N) X a S) (hb:OL 7 (OB N) X b S) (hS:Sc S0 S) (hX:∀ j S',NP g off a b S' → OL 5 (ON N) X a S' → OL 7 (OB N) X b S' → Sc S0 S' → Q (.exit 2) ⟨upd (upd (upd (upd ((fun _=>none)) 28 (some (.val (B false)))) 27 (some (.val (I j)))) 26 (some (.val (I (lenV b))))) 0 (some (.val (.mp g off))),(fun _=>none),n,v,D,S'⟩):EX (callL p) (.loop F48_l2) ⟨upd (upd (upd ((fun _=>none)) 27 (some (.val (I i)))) 26 (some (.val (I (lenV b))))) 0 (some (.val (.mp g off))),(fun _=>none),n,v,D,S⟩ Q:=by
 refine eloop (er (qp J (qb ?_)))
 rintro (_ | _) h1
 ·refine qn (kq4 J) kn (eseq (ecF J (eexit (sqx ?_))))
  exact hX _ _ hN ha hb hS
 refine qn (kq4 J) kn (eseq (ecT J (eskip (sqn (eseq (eblock (er (pq2 J (qn (kq4 J) kn (er ?_))))))))))
 have hlt:i < lenV b:=by simpa using h1
 have hbd:=OL.bd (Q:=OB N) hb
 obtain ⟨g1,vs,co,m1,a1,b1,e1,hv,hc,ov,oc,k1,k2,k3,k4⟩:=OL.branch hb hlt
 have hN0:=hN
 obtain ⟨cs0,o0,m0,t0,n1,n2,n3,n4,n5,n6⟩:=hN
 refine pq3 J (hldm J n1 n6 (qp J (hiam (congrArg some e1) J (Int.natCast_nonneg _) hlt (qp J (hcall J J J (H m1 k1 X g1 _ a1 b1 _ k2 k3 k4) ?_)))))
 rintro _ S1 ⟨rfl,hx⟩
 have hN:=hN0
 have hN:=hN.sc hx ha.crA (OL.crA (Q:=OB N) hb)
 have hv:=hv.sc hx ov.crA
 have hc:=hc.sc hx oc.crA
 have ha:=ha.sc (ON.s N) hx
 have hb:=OL.sc (OB.s N) hx hb
 have ov:=ov.sc IR.s hx
 have oc:=oc.sc BR.s hx
 refine qn (kq4 J) kn (eseq (er ?_))
 have hN0:=hN
 have hv0:=hv
 have hc0:=hc
 obtain ⟨cs0,o0,m0,t0,n1,n2,n3,n4,n5,n6⟩:=hN
 obtain ⟨g1,c1,e1,l1,m1,a1⟩:=hv
 have hN:=hN0
 have hv:=hv0
 refine qp rfl (qp rfl (qp rfl (hldm rfl n1 n6 (qp rfl (hiam (congrArg some e1) rfl (Int.natCast_nonneg _) l1 (qp rfl (hldm rfl m1 a1 (hlenO rfl ov.len (qp rfl (qk (kc rfl (kc rfl (kc rfl (kc rfl (kc rfl (kc rfl kn)))))) kn (sqn (eblock (scrub_l3 X _ g off a b vs co i ha.crA (OL.crA (Q:=OB N) hb) 0 (Nat.zero_le _) hN hv hc ov oc (Sc.refl _) ?_)))))))))))))
 intro j3 S3 hx3
 have hN:=hN.sc hx3 ha.crA (OL.crA (Q:=OB N) hb)
 have hv:=hv.sc hx3 ov.crA
 have hc:=hc.sc hx3 oc.crA
 have ha:=ha.sc (ON.s N) hx3
 have hb:=OL.sc (OB.s N) hx3 hb
 have ov:=ov.sc IR.s hx3
 have oc:=oc.sc BR.s hx3
 refine bqx (sqn (er ?_))
 have hN0:=hN
 have hv0:=hv
 have hc0:=hc
 obtain ⟨cs0,o0,m0,t0,n1,n2,n3,n4,n5,n6⟩:=hN
 obtain ⟨g1,c1,e1,l1,m1,a1⟩:=hc
 have hN:=hN0
 have hc:=hc0
 refine qp rfl (qp rfl (qp rfl (hldm rfl n1 n6 (qp rfl (hiam (congrArg some e1) rfl (Int.natCast_nonneg _) l1 (qp rfl (hldm rfl m1 a1 (hlenO rfl oc.len (qp rfl (qk (kc rfl (kc rfl (kc rfl (kc rfl (kc rfl (kc rfl kn)))))) kn (sqn (eblock (scrub_l4 X _ g off a b vs co i ha.crA (OL.crA (Q:=OB N) hb) 0 (Nat.zero_le _) hN hv hc ov oc (Sc.refl _) ?_)))))))))))))
 intro j4 S4 hx4
 have hN:=hN.sc hx4 ha.crA (OL.crA (Q:=OB N) hb)
 have ha:=ha.sc (ON.s N) hx4
 have hb:=OL.sc (OB.s N) hx4 hb
 refine bqx (bqn (sqn (ereg (hadd J J (i64w (by omega)) (qp J (qk (kq3 J) kn ?_))))))
 exact scrub_l2 N H X S0 g off a b (i + 1) (by omega) hN ha hb (((hS.trans hx).trans hx3).trans hx4) hX
termination_by lenV b - i
decreasing_by all_goals omega
theorem scrub_c0 (N:Nat) (H:∀ m,m < N → ScrubC m) (X:TK) (g off:Nat) (a b:AV) (s:Sg) (hN:NP g off a b s) (ha:OL 5 (ON N) X a s) (hb:OL 7 (OB N) X b s):HC p N48_ [.mp g off] s (fun r s'=>r=[] ∧ Sc s s'):=by
 refine hcf J f48_ J ?_
 simp only [chainOf]
 refine eseq (er ?_)
 have hN0:=hN
 obtain ⟨cs0,o0,m0,t0,n1,n2,n3,n4,n5,n6⟩:=hN
 have hN:=hN0
 refine pq3 J (hldm J n1 n5 (hlenO J ha.len (qp J (qn (kq3 J) kn (eblock (scrub_l1 N H X _ g off a b 0 (Nat.zero_le _) hN ha hb (Sc.refl _) ?_))))))
 intro j1 S1 hN ha hb hx1
 refine bqx (sqn (eseq (er ?_)))
 have hN0:=hN
 obtain ⟨cs0,o0,m0,t0,n1,n2,n3,n4,n5,n6⟩:=hN
 have hN:=hN0
 refine qp rfl (qp rfl (qp rfl (hldm rfl n1 n6 (hlenO rfl (OL.len (Q:=OB N) hb) (qp rfl (qk (kc rfl (kc rfl (kc rfl kn))) kn (sqn (eblock (scrub_l2 N H X _ g off a b 0 (Nat.zero_le _) hN ha hb (Sc.refl _) ?_)))))))))
 intro j2 S2 hN ha hb hx2
 refine bqx (sqn (ereg ?_))
 obtain ⟨cs0,o0,m0,t0,n1,n2,n3,n4,n5,n6⟩:=hN
 have y1:=Sc.put n1 (SR.put1 n3 (CR.ii m0 (-7)))
 have n4a:=wr_ne (b:=I (-7)) n3 (by omega) n4
 have n2a:=wr_ne (b:=I (-7)) n4a (by omega) (wr_ne (b:=I (-7)) n3 (by omega) n2)
 refine qp rfl (qp rfl (qp rfl (qp rfl (qp rfl (hstm (y:=I (-7)) rfl rfl n1 rfl (wr_at (b:=I (-7)) n3) (by simp) rfl (qp rfl (qp rfl (hstm (y:=I (-7)) rfl rfl (upd_same _ _ _) rfl (wr_at (b:=I (-7)) n4a) (by simp) rfl (qp rfl (qp rfl (hstm (y:=I (-7)) rfl rfl (upd_same _ _ _) rfl (wr_at (b:=I (-7)) n2a) (by simp) rfl (qk kn kn (fqn rfl ?_)))))))))))))
 refine ⟨J,((hx1.trans hx2).trans y1).trans ?_⟩
 exact (Sc.put (upd_same _ _ _) (SR.put1 n4a (CR.ii _ (-7)))).trans (Sc.put (upd_same _ _ _) (SR.put1 n2a (CR.ii _ (-7))))
theorem scrub_c (n:Nat):ScrubC n:=by
 induction n using Nat.strongRecOn with
 | _ n ih=>exact fun X g off a b s h1 h2 h3=>scrub_c0 n ih X g off a b s h1 h2 h3
end Go.Sim.Kd
namespace Go.Sim.Kd
open Go Go.Sim
def HO (id:Nat) (d f:AV) (S:Sg):Prop:=S.ob id=some (.row [d,f]) ∧ id < S.nx
theorem HO.sc {id:Nat} {d f:AV} {S S':Sg} (h:HO id d f S) (k:Sc S S'):HO id d f S':=⟨(k.e.ob id h.2).trans h.1,Nat.lt_of_lt_of_le h.2 k.e.nx⟩
theorem chg_l3 (X:TK) (S0:Sg) (id:Nat) (d f x y:AV) (i k:Nat) (q:Nat) (hq:q ≤ lenV y) {n:Nat} {v:Nat → Bool} {D:List (Nat × List AV)} {S:Sg} {Q:Ex → Fr → Prop}
 (ho:HO id d f S) (hx:El 3 2 d i x S) (ox:OL 2 OX X x S) (hg:El 2 1 x k y S) (og:OL 2 AR X y S) (hS:Sc S0 S) (hX:∀ j S',Sc S0 S' → Q (.exit 4) ⟨upd (upd (upd (upd (upd (upd (upd (upd (upd (upd ((fun _=>none)) 53 (some (.val (B false)))) 52 (some (.val (I j)))) 51 (some (.val (I (lenV y))))) 25 (some (.val (I k)))) 24 (some (.val (I (lenV x))))) 13 (some (.val (I i)))) 12 (some (.val (I (lenV d))))) 3 (some (.val (I k)))) 2 (some (.val (I i)))) 0 (some (.val (.ptr id 0))),(fun _=>none),n,v,D,S'⟩):EX (callL p) (.loop F15_l3) ⟨upd (upd (upd (upd (upd (upd (upd (upd (upd ((fun _=>none)) 52 (some (.val (I q)))) 51 (some (.val (I (lenV y))))) 25 (some (.val (I k)))) 24 (some (.val (I (lenV x))))) 13 (some (.val (I i)))) 12 (some (.val (I (lenV d))))) 3 (some (.val (I k)))) 2 (some (.val (I i)))) 0 (some (.val (.ptr id 0))),(fun _=>none),n,v,D,S⟩ Q:=by
 refine eloop (er (qp J (qb ?_)))
 rintro (_ | _) h1
 ·refine qn (kq10 J) kn (eseq (ecF J (eexit (sqx ?_))))
  exact hX _ _ hS
 refine qn (kq10 J) kn (eseq (ecT J (eskip (sqn (eseq (eblock (er (pq2 J (qn (kq10 J) kn (ereg ?_))))))))))
 have hlt:q < lenV y:=by simpa using h1
 have hbd:=og.bd
 obtain ⟨z,hz0⟩:=og.arg hlt
 have khx:=hx
 have khg:=hg
 obtain ⟨g1,c1,e1,l1,m1,a1⟩:=hx
 obtain ⟨g2,c2,e2,l2,m2,a2⟩:=hg
 obtain ⟨g3,c3,e3,l3,m3,a3⟩:=hz0
 have hx:=khx
 have hg:=khg
 have hz:=Sc.put m3 (SR.put1 a3 (CR.ii z (-3)))
 refine pq3 J (hldo J ho.1 J ?_)
 refine qp rfl (hiam (congrArg some e1) rfl (Int.natCast_nonneg _) l1 (qp rfl (hldm rfl m1 a1 (qp rfl (hiam (congrArg some e2) rfl (Int.natCast_nonneg _) l2 (qp rfl (hldm rfl m2 a2 (qp rfl (hiam (congrArg some e3) rfl (Int.natCast_nonneg _) l3 (qp rfl (hstm (y:=I (-3)) rfl rfl m3 rfl (wr_at (b:=I (-3)) a3) (by simp) rfl (qk (kc rfl (kc rfl (kc rfl (kc rfl (kc rfl (kc rfl (kc rfl (kc rfl (kc rfl kn))))))))) kn (bqn (sqn (ereg (hadd rfl rfl (i64w (by omega)) (qp rfl (qk (kc rfl (kc rfl (kc rfl (kc rfl (kc rfl (kc rfl (kc rfl (kc rfl (kc rfl kn))))))))) kn ?_))))))))))))))))))
 exact chg_l3 X S0 id d f x y i k (q + 1) (by omega) (ho.sc hz) (hx.sc hz ox.crA) (ox.sc OX.s hz) (hg.sc hz og.crA) (og.sc AR.s hz) (hS.trans hz) hX
termination_by lenV y - q
decreasing_by all_goals omega
theorem chg_l2 (X:TK) (S0:Sg) (id:Nat) (d f x:AV) (i:Nat) (k:Nat) (hk:k ≤ lenV x) {n:Nat} {v:Nat → Bool} {D:List (Nat × List AV)} {S:Sg} {Q:Ex → Fr → Prop}
 (ho:HO id d f S) (hd:OL 3 OD X d S) (hf:OL 8 OF X f S) (hx:El 3 2 d i x S) (ox:OL 2 OX X x S) (hS:Sc S0 S) (hX:∀ j S',HO id d f S' → OL 3 OD X d S' → OL 8 OF X f S' → Sc S0 S' → Q (.exit 2) ⟨upd (upd (upd (upd (upd (upd (upd ((fun _=>none)) 26 (some (.val (B false)))) 25 (some (.val (I j)))) 24 (some (.val (I (lenV x))))) 13 (some (.val (I i)))) 12 (some (.val (I (lenV d))))) 2 (some (.val (I i)))) 0 (some (.val (.ptr id 0))),(fun _=>none),n,v,D,S'⟩):EX (callL p) (.loop F15_l2) ⟨upd (upd (upd (upd (upd (upd ((fun _=>none)) 25 (some (.val (I k)))) 24 (some (.val (I (lenV x))))) 13 (some (.val (I i)))) 12 (some (.val (I (lenV d))))) 2 (some (.val (I i)))) 0 (some (.val (.ptr id 0))),(fun _=>none),n,v,D,S⟩ Q:=by
 refine eloop (er (qp J (qb ?_)))
 rintro (_ | _) h1
 ·refine qn (kq7 J) kn (eseq (ecF J (eexit (sqx ?_))))
  exact hX _ _ ho hd hf hS
 refine qn (kq7 J) kn (eseq (ecT J (eskip (sqn (eseq (eblock (er (pq2 J (qn (kq7 J) kn (er ?_))))))))))
 have hlt:k < lenV x:=by simpa using h1
 have hbd:=ox.bd
 obtain ⟨nm,y,hn0,hg,og⟩:=ox.xtor hlt
 have khx:=hx
 obtain ⟨g1,c1,e1,l1,m1,a1⟩:=hx
 obtain ⟨g2,c2,e2,l2,m2,a2⟩:=hn0
 have hx:=khx
 have hz:=Sc.put m2 (SR.put1 a2 (CR.ss nm ⟨#[67,104,97,110,103,101,100]⟩))
 refine pq3 J (hldo J ho.1 J ?_)
 refine qp rfl (hiam (congrArg some e1) rfl (Int.natCast_nonneg _) l1 (qp rfl (hldm rfl m1 a1 (qp rfl (hiam (congrArg some e2) rfl (Int.natCast_nonneg _) l2 (qp rfl (hstm (y:=Str ⟨#[67,104,97,110,103,101,100]⟩) rfl rfl m2 rfl (wr_at (b:=Str ⟨#[67,104,97,110,103,101,100]⟩) a2) (by simp) rfl (qk (kc rfl (kc rfl (kc rfl (kc rfl (kc rfl (kc rfl (kc rfl kn))))))) kn (sqn (eseq (ereg ?_)))))))))))
 have ho:=ho.sc hz
 have hd:=hd.sc OD.s hz
 have hf:=hf.sc OF.s hz
 have hx:=hx.sc hz ox.crA
 have ox:=ox.sc OX.s hz
 have hg:=hg.sc hz og.crA
 have og:=og.sc AR.s hz
 have khx:=hx
 have khg:=hg
 obtain ⟨g3,c3,e3,l3,m3,a3⟩:=hx
 obtain ⟨g4,c4,e4,l4,m4,a4⟩:=hg
 have hx:=khx
 have hg:=khg
 refine pq3 J (hldo J ho.1 J ?_)
 refine qp J (hiam (congrArg some e3) J (Int.natCast_nonneg _) l3 (qp J (hldm J m3 a3 (qp J (hiam (congrArg some e4) J (Int.natCast_nonneg _) l4 (qp J (hldm J m4 a4 (hlenO J og.len (qp J (qn (kq9 J) kn (eblock (chg_l3 X _ id d f x y i k 0 (Nat.zero_le _) ho hx ox hg og (Sc.refl _) ?_))))))))))))
 intro j3 S3 hx3
 have ho:=ho.sc hx3
 have hd:=hd.sc OD.s hx3
 have hf:=hf.sc OF.s hx3
 have hx:=hx.sc hx3 ox.crA
 have ox:=ox.sc OX.s hx3
 refine bqx (bqn (sqn (ereg (hadd J J (i64w (by omega)) (qp J (qk (kq6 J) kn ?_))))))
 exact chg_l2 X S0 id d f x i (k + 1) (by omega) ho hd hf hx ox ((hS.trans hz).trans hx3) hX
termination_by lenV x - k
decreasing_by all_goals omega
theorem chg_l1 (X:TK) (S0:Sg) (id:Nat) (d f:AV) (i:Nat) (hi:i ≤ lenV d) {n:Nat} {v:Nat → Bool} {D:List (Nat × List AV)} {S:Sg} {Q:Ex → Fr → Prop}
 (ho:HO id d f S) (hd:OL 3 OD X d S) (hf:OL 8 OF X f S) (hS:Sc S0 S) (hX:∀ j S',HO id d f S' → OL 3 OD X d S' → OL 8 OF X f S' → Sc S0 S' → Q (.exit 0) ⟨upd (upd (upd (upd ((fun _=>none)) 14 (some (.val (B false)))) 13 (some (.val (I j)))) 12 (some (.val (I (lenV d))))) 0 (some (.val (.ptr id 0))),(fun _=>none),n,v,D,S'⟩):EX (callL p) (.loop F15_l1) ⟨upd (upd (upd ((fun _=>none)) 13 (some (.val (I i)))) 12 (some (.val (I (lenV d))))) 0 (some (.val (.ptr id 0))),(fun _=>none),n,v,D,S⟩ Q:=by
 refine eloop (er (qp J (qb ?_)))
 rintro (_ | _) h1
 ·refine qn (kq4 J) kn (eseq (ecF J (eexit (sqx ?_))))
  exact hX _ _ ho hd hf hS
 refine qn (kq4 J) kn (eseq (ecT J (eskip (sqn (eseq (eblock (er (pq2 J (qn (kq4 J) kn (er ?_))))))))))
 have hlt:i < lenV d:=by simpa using h1
 have hbd:=hd.bd
 obtain ⟨x,hx,ox⟩:=hd.decl hlt
 have khx:=hx
 obtain ⟨g1,c1,e1,l1,m1,a1⟩:=hx
 have hx:=khx
 refine pq3 J (hldo J ho.1 J ?_)
 refine qp J (hiam (congrArg some e1) J (Int.natCast_nonneg _) l1 (qp J (hldm J m1 a1 (hlenO J ox.len (qp J (qn (kq6 J) kn (eblock (chg_l2 X _ id d f x i 0 (Nat.zero_le _) ho hd hf hx ox (Sc.refl _) ?_))))))))
 intro j2 S2 ho hd hf hx2
 refine bqx (bqn (sqn (ereg (hadd J J (i64w (by omega)) (qp J (qk (kq3 J) kn ?_))))))
 exact chg_l1 X S0 id d f (i + 1) (by omega) ho hd hf (hS.trans hx2) hX
termination_by lenV d - i
decreasing_by all_goals omega
theorem chg_l5 (X:TK) (S0:Sg) (id:Nat) (d f vs:AV) (i:Nat) (k:Nat) (hk:k ≤ lenV vs) {n:Nat} {v:Nat → Bool} {D:List (Nat × List AV)} {S:Sg} {Q:Ex → Fr → Prop}
 (ho:HO id d f S) (hv:El 8 2 f i vs S) (ov:OL 1 IR X vs S) (hS:Sc S0 S) (hX:∀ j S',Sc S0 S' → Q (.exit 8) ⟨upd (upd (upd (upd (upd (upd (upd ((fun _=>none)) 99 (some (.val (B false)))) 98 (some (.val (I j)))) 97 (some (.val (I (lenV vs))))) 78 (some (.val (I i)))) 77 (some (.val (I (lenV f))))) 5 (some (.val (I i)))) 0 (some (.val (.ptr id 0))),(fun _=>none),n,v,D,S'⟩):EX (callL p) (.loop F15_l5) ⟨upd (upd (upd (upd (upd (upd ((fun _=>none)) 98 (some (.val (I k)))) 97 (some (.val (I (lenV vs))))) 78 (some (.val (I i)))) 77 (some (.val (I (lenV f))))) 5 (some (.val (I i)))) 0 (some (.val (.ptr id 0))),(fun _=>none),n,v,D,S⟩ Q:=by
 refine eloop (er (qp J (qb ?_)))
 rintro (_ | _) h1
 ·refine qn (kq7 J) kn (eseq (ecF J (eexit (sqx ?_))))
  exact hX _ _ hS
 refine qn (kq7 J) kn (eseq (ecT J (eskip (sqn (eseq (eblock (er (pq2 J (qn (kq7 J) kn (ereg ?_))))))))))
 have hlt:k < lenV vs:=by simpa using h1
 have hbd:=ov.bd
 obtain ⟨z,hz0⟩:=ov.int hlt
 have khv:=hv
 obtain ⟨g1,c1,e1,l1,m1,a1⟩:=hv
 obtain ⟨g2,c2,e2,l2,m2,a2⟩:=hz0
 have hv:=khv
 have hz:=Sc.put m2 (SR.put1 a2 (CR.ii z (-3)))
 refine pq3 J (hldo J ho.1 J ?_)
 refine qp rfl (hiam (congrArg some e1) rfl (Int.natCast_nonneg _) l1 (qp rfl (hldm rfl m1 a1 (qp rfl (hiam (congrArg some e2) rfl (Int.natCast_nonneg _) l2 (hstm (y:=I (-3)) rfl rfl m2 rfl (wr_at (b:=I (-3)) a2) (by simp) rfl (qk (kc rfl (kc rfl (kc rfl (kc rfl (kc rfl (kc rfl kn)))))) kn (bqn (sqn (ereg (hadd rfl rfl (i64w (by omega)) (qp rfl (qk (kc rfl (kc rfl (kc rfl (kc rfl (kc rfl (kc rfl kn)))))) kn ?_)))))))))))))
 exact chg_l5 X S0 id d f vs i (k + 1) (by omega) (ho.sc hz) (hv.sc hz ov.crA) (ov.sc IR.s hz) (hS.trans hz) hX
termination_by lenV vs - k
decreasing_by all_goals omega
theorem chg_l6 (X:TK) (S0:Sg) (id:Nat) (d f ps:AV) (i:Nat) (k:Nat) (hk:k ≤ lenV ps) {n:Nat} {v:Nat → Bool} {D:List (Nat × List AV)} {S:Sg} {Q:Ex → Fr → Prop}
 (ho:HO id d f S) (hp:El 8 1 f i ps S) (op:OL 2 AR X ps S) (hS:Sc S0 S) (hX:∀ j S',Sc S0 S' → Q (.exit 10) ⟨upd (upd (upd (upd (upd (upd (upd ((fun _=>none)) 122 (some (.val (B false)))) 121 (some (.val (I j)))) 120 (some (.val (I (lenV ps))))) 78 (some (.val (I i)))) 77 (some (.val (I (lenV f))))) 5 (some (.val (I i)))) 0 (some (.val (.ptr id 0))),(fun _=>none),n,v,D,S'⟩):EX (callL p) (.loop F15_l6) ⟨upd (upd (upd (upd (upd (upd ((fun _=>none)) 121 (some (.val (I k)))) 120 (some (.val (I (lenV ps))))) 78 (some (.val (I i)))) 77 (some (.val (I (lenV f))))) 5 (some (.val (I i)))) 0 (some (.val (.ptr id 0))),(fun _=>none),n,v,D,S⟩ Q:=by
 refine eloop (er (qp J (qb ?_)))
 rintro (_ | _) h1
 ·refine qn (kq7 J) kn (eseq (ecF J (eexit (sqx ?_))))
  exact hX _ _ hS
 refine qn (kq7 J) kn (eseq (ecT J (eskip (sqn (eseq (eblock (er (pq2 J (qn (kq7 J) kn (ereg ?_))))))))))
 have hlt:k < lenV ps:=by simpa using h1
 have hbd:=op.bd
 obtain ⟨z,hz0⟩:=op.arg hlt
 have khp:=hp
 obtain ⟨g1,c1,e1,l1,m1,a1⟩:=hp
 obtain ⟨g2,c2,e2,l2,m2,a2⟩:=hz0
 have hp:=khp
 have hz:=Sc.put m2 (SR.put1 a2 (CR.ii z (-3)))
 refine pq3 J (hldo J ho.1 J ?_)
 refine qp rfl (hiam (congrArg some e1) rfl (Int.natCast_nonneg _) l1 (qp rfl (hldm rfl m1 a1 (qp rfl (hiam (congrArg some e2) rfl (Int.natCast_nonneg _) l2 (qp rfl (hstm (y:=I (-3)) rfl rfl m2 rfl (wr_at (b:=I (-3)) a2) (by simp) rfl (qk (kc rfl (kc rfl (kc rfl (kc rfl (kc rfl (kc rfl kn)))))) kn (bqn (sqn (ereg (hadd rfl rfl (i64w (by omega)) (qp rfl (qk (kc rfl (kc rfl (kc rfl (kc rfl (kc rfl (kc rfl kn)))))) kn ?_))))))))))))))
 exact chg_l6 X S0 id d f ps i (k + 1) (by omega) (ho.sc hz) (hp.sc hz op.crA) (op.sc AR.s hz) (hS.trans hz) hX
termination_by lenV ps - k
decreasing_by all_goals omega
theorem chg_l4 (X:TK) (S0:Sg) (id:Nat) (d f:AV) (i:Nat) (hi:i ≤ lenV f) {n:Nat} {v:Nat → Bool} {D:List (Nat × List AV)} {S:Sg} {Q:Ex → Fr → Prop}
 (ho:HO id d f S) (hf:OL 8 OF X f S) (hS:Sc S0 S) (hX:∀ j S',Sc S0 S' → Q (.exit 6) ⟨upd (upd (upd (upd ((fun _=>none)) 79 (some (.val (B false)))) 78 (some (.val (I j)))) 77 (some (.val (I (lenV f))))) 0 (some (.val (.ptr id 0))),(fun _=>none),n,v,D,S'⟩):EX (callL p) (.loop F15_l4) ⟨upd (upd (upd ((fun _=>none)) 78 (some (.val (I i)))) 77 (some (.val (I (lenV f))))) 0 (some (.val (.ptr id 0))),(fun _=>none),n,v,D,S⟩ Q:=by
 refine eloop (er (qp J (qb ?_)))
 rintro (_ | _) h1
 ·refine qn (kq4 J) kn (eseq (ecF J (eexit (sqx ?_))))
  exact hX _ _ hS
 refine qn (kq4 J) kn (eseq (ecT J (eskip (sqn (eseq (eblock (er (pq2 J (qn (kq4 J) kn (er ?_))))))))))
 have hlt:i < lenV f:=by simpa using h1
 have hbd:=hf.bd
 obtain ⟨g1,ps,vs,mm,a1,b1,e1,hp,hv,op,ov,k2,k3,k4⟩:=hf.fun_ hlt
 refine pq3 J (hldo J ho.1 J ?_)
 refine qp J (hiam (congrArg some e1) J (Int.natCast_nonneg _) hlt (qp J (hcall J J J (scrub_c mm X g1 _ a1 b1 _ k2 k3 k4) ?_)))
 rintro _ S1 ⟨rfl,hz⟩
 have ho:=ho.sc hz
 have hf:=hf.sc OF.s hz
 have hp:=hp.sc hz op.crA
 have op:=op.sc AR.s hz
 have hv:=hv.sc hz ov.crA
 have ov:=ov.sc IR.s hz
 refine qn (kq4 J) kn (eseq (er ?_))
 have khv:=hv
 obtain ⟨g3,c3,e3,l3,m3,a3⟩:=hv
 have hv:=khv
 refine pq3 J (hldo J ho.1 J ?_)
 refine qp J (hiam (congrArg some e3) J (Int.natCast_nonneg _) l3 (qp J (hldm J m3 a3 (hlenO J ov.len (qp J (qn (kq6 J) kn (eblock (chg_l5 X _ id d f vs i 0 (Nat.zero_le _) ho hv ov (Sc.refl _) ?_))))))))
 intro j5 S5 hx5
 have ho:=ho.sc hx5
 have hf:=hf.sc OF.s hx5
 have hp:=hp.sc hx5 op.crA
 have op:=op.sc AR.s hx5
 refine bqx (sqn (er ?_))
 have khp:=hp
 obtain ⟨g4,c4,e4,l4,m4,a4⟩:=hp
 have hp:=khp
 refine pq3 J (hldo J ho.1 J ?_)
 refine qp J (hiam (congrArg some e4) J (Int.natCast_nonneg _) l4 (qp J (hldm J m4 a4 (hlenO J op.len (qp J (qn (kq6 J) kn (eblock (chg_l6 X _ id d f ps i 0 (Nat.zero_le _) ho hp op (Sc.refl _) ?_))))))))
 intro j6 S6 hx6
 have ho:=ho.sc hx6
 have hf:=hf.sc OF.s hx6
 refine bqx (bqn (sqn (ereg (hadd J J (i64w (by omega)) (qp J (qk (kq3 J) kn ?_))))))
 exact chg_l4 X S0 id d f (i + 1) (by omega) ho hf (((hS.trans hz).trans hx5).trans hx6) hX
termination_by lenV f - i
decreasing_by all_goals omega
theorem change_c (X:TK) (id:Nat) (d f:AV) (s:Sg) (ho:HO id d f s) (hd:OL 3 OD X d s) (hf:OL 8 OF X f s):HC p N15_ [.ptr id 0] s (fun r s'=>r=[] ∧ Sc s s'):=by
 refine hcf J f15_ J ?_
 simp only [chainOf]
 refine eseq (er (pq3 J (hldo J ho.1 J ?_)))
 refine hlenO J hd.len (qp J (qn (kq3 J) kn (eblock (chg_l1 X _ id d f 0 (Nat.zero_le _) ho hd hf (Sc.refl _) ?_))))
 intro j1 S1 ho hd hf hx1
 refine bqx (sqn (er (pq3 J (hldo J ho.1 J ?_))))
 refine hlenO J hf.len (qp J (qn (kq3 J) kn (eblock (chg_l4 X _ id d f 0 (Nat.zero_le _) ho hf (Sc.refl _) ?_))))
 intro j4 S4 hx4
 refine bqx (fqn J ?_)
 exact ⟨rfl,hx1.trans hx4⟩
theorem DualT_d (s:Sg) (hQ:QOK s) (hD:DQ s) (c:Core) (z:SzD c):HC p N9_ [.agg (Core.cs c)] s (fun r s'=>∃ d f:AV,∃ e:Int,r=[.agg [d,f],I e] ∧ d.erT=d ∧ f.erT=f ∧ Ext s s' ∧ (e=0 → OL 3 OD (fun _=>True) d s' ∧ OL 8 OF (fun _=>True) f s')) :=
 DualT_c s hQ hD c z.hc z.dl z.xl z.xa z.fl z.fp z.fv z.bz
theorem DualOwn_c (s:Sg) (hQ:QOK s) (hD:DQ s) (c:Core) (hz:c.sz ≤ 2 ^ 30) (z:SzD c):HC p N4_ [.agg (Core.cs c)] s (fun r s'=>r=[B true] ∧ Ext s s'):=by
 refine hcf J f4_ J ?_
 simp only [chainOf]
 refine er (hbox (dc dn J) J (lq2 J) (qp J (qn (kq1 J) (kq1 J) (eseq (er (hlda J J (lq2 J) (hcall J J J (Few_c _ c z.z 3000 (by decide) (by decide)) ?_)))))))
 rintro _ _ ⟨rfl,hq⟩
 obtain rfl:=hq.symm
 refine qb ?_
 rintro (_ | _) h1
 refine qp J (qn (kq2 J) (kq1 J) (ecT J (er (hcall J J J (awake_c _ hQ hD) ?_))))
 rintro _ _ ⟨rfl,hq⟩
 obtain rfl:=hq.symm
 refine qp J (qn (kq1 J) kn (eret (sqr (fqr J ?_))))
 rotate_left
 refine qp J (qn (kq2 J) (kq1 J) (ecF J (eskip (sqn (er (hlda J J (lq2 J) (hcall J J J (CopyCore_c _ c hz) ?_)))))))
 rintro _ _ ⟨rfl,hq⟩
 obtain rfl:=hq.symm
 refine hal (dq4 J) (hstl J J J J (Nlb J) (lq2 J) (qn (kq2 J) (kq2 J) (er (hlda J J (lq2 J) (hcall J J J (Pure_c _ hQ c z.hc (fun d hd=>Nat.le_trans (z.xl d hd) (by decide)) (Nat.le_trans z.fl (by decide)) z.fv (fun g hg=>Nat.le_trans (z.bz g hg) (by decide))) ?_)))))
 rintro _ S1 ⟨rfl,hE1⟩
 refine qn (kq2 J) (kq2 J) (er (hlda J J (lq2 J) (hcall J J J (DualT_d _ (hQ.e hE1) (hD.e hE1) c z) ?_)))
 rintro _ S2 ⟨d,f,e,rfl,hd1,hf1,hE2,hT⟩
 refine qp rfl (qp rfl (qp rfl (hall (hsto (cs':=[d,f]) rfl rfl new_ob rfl (Nlb rfl) (by simp) (show [d.erT,f.erT]=_ by rw [hd1,hf1]) (qp rfl (qk (kc rfl (kc rfl (kc rfl (kc rfl kn)))) (kc rfl (kc rfl kn)) (sqn (eseq (eseq (ereg (qp rfl (qp rfl (qb ?_)))))))))))))
 rintro (_ | _) h2
 have hEx:Ext s ((S2.new (.row [.slice .full 3 [],.slice .full 8 []])).set S2.nx (.row [d,f])):=(hE1.trans hE2).trans (Ext.new.set (Nat.le_refl _))
 refine qn (kq4 J) (kq2 J) (ecF J (eskip (sqn (er (hlda J J (lq2 J) (hlda J J (lq2 J) (hcall J J J (ExactCore_c _ c z.z) ?_)))))))
 rintro _ _ ⟨rfl,hq⟩
 obtain rfl:=hq.symm
 refine qb ?_
 rintro (_ | _) h3
 refine qp J (zq1 J (pq2 J (qn (kq1 J) kn (eret (fqr J ?_)))))
 rotate_left
 refine qp J (qg J (hcall J J J (awake_c _ (hQ.e hEx) (hD.e hEx)) ?_))
 rintro _ _ ⟨rfl,hq⟩
 obtain rfl:=hq.symm
 refine pq2 J (qn (kq1 J) kn (eret (fqr J ?_)))
 rotate_left
 refine qk (kc rfl (kc rfl (kc rfl (kc rfl kn)))) (kc rfl (kc rfl kn)) (sqn (ecT rfl (ereg (hcall rfl rfl rfl (change_c (fun _=>True) S2.nx d f _ ⟨set_ob,Nat.lt_succ_self _⟩ (OL.mono (S:=S2) OD.m (fun _ h=>h) (fun _ _=>rfl) (hT (by simpa using h2)).1) (OL.mono (S:=S2) OF.m (fun _ h=>h) (fun _ _=>rfl) (hT (by simpa using h2)).2)) ?_))))
 rintro _ S5 ⟨rfl,hx5⟩
 have hEx:Ext s ((S2.new (.row [.slice .full 3 [],.slice .full 8 []])).set S2.nx (.row [d,f])):=(hE1.trans hE2).trans (Ext.new.set (Nat.le_refl _))
 have hEx:=hEx.trans hx5.e
 refine qn (kq2 J) (kq2 J) (er (hlda J J (lq2 J) (hlda J J (lq2 J) (hcall J J J (ExactCore_c _ c z.z) ?_))))
 rintro _ _ ⟨rfl,hq⟩
 obtain rfl:=hq.symm
 refine qb ?_
 rintro (_ | _) h4
 refine qp J (zq1 J (pq2 J (qn (kq1 J) kn (eret (fqr J ?_)))))
 rotate_left
 refine qp J (qg J (hcall J J J (awake_c _ (hQ.e hEx) (hD.e hEx)) ?_))
 rintro _ _ ⟨rfl,hq⟩
 obtain rfl:=hq.symm
 refine pq2 J (qn (kq1 J) kn (eret (fqr J ?_)))
 rotate_left
 all_goals
  first | exact ⟨rfl,Ext.refl _⟩ | exact ⟨rfl,hEx⟩ | (exfalso;simp_all;done)
end Go.Sim.Kd
