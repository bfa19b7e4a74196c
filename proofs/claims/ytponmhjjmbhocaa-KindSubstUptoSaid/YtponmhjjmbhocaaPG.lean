/-
  A part of a proof: see the last text of this claim.
-/
import Derived.Test.YtponmhjjmbhocaaPC
import Derived.Test.YtponmhjjmbhocaaPF
set_option linter.unusedVariables false
set_option linter.unusedSimpArgs false
namespace Go.Sim.W
open Go Go.Sim
abbrev SL (sz:Nat) (xs:List AV):AV:=.slice .none sz xs
abbrev ints (l:List Int):AV:=SL 1 (l.map I)
def WL (sz:Nat) (v:AV) (n:Nat) (cs:List AV) (S:Sg):Prop :=
 cs.length=n * sz ∧ ((n=0 ∧ v=.slice .full sz []) ∨ ∃ g,v=.ms g 0 n sz ∧ S.mu g=some cs ∧ g < S.mn)
def tk:AV → List Nat
 | .ms g _ _ _=>[g]
 | _=>[]
def tks (l:List AV):List Nat:=l.flatMap tk
theorem WL.lt {sz n:Nat} {v:AV} {cs:List AV} {S:Sg} (h:WL sz v n cs S):∀ g ∈ tk v,g < S.mn:=by
 rcases h.2 with ⟨_,rfl⟩ | ⟨g,rfl,_,h⟩
 ·intro g hg;cases hg
 intro g' hg
 rw [List.mem_singleton.1 hg]
 exact h
theorem WL.mono {sz n:Nat} {v:AV} {cs:List AV} {S S':Sg} (h:WL sz v n cs S) (hm:∀ g ∈ tk v,S'.mu g=S.mu g) (hn:S.mn ≤ S'.mn):WL sz v n cs S':=by
 refine ⟨h.1,?_⟩
 rcases h.2 with h | ⟨g,rfl,h1,h2⟩
 ·exact .inl h
 exact .inr ⟨g,rfl,(hm g (by simp [tk])).trans h1,Nat.lt_of_lt_of_le h2 hn⟩
def own (X:List Nat) (S:Sg) (g:Nat):Prop:=∃ i ∈ X,∃ row,S.ob i=some (.row row) ∧ g ∈ tks row
structure KX (X:List Nat) (S S':Sg):Prop where
 nx:S.nx ≤ S'.nx
 mn:S.mn ≤ S'.mn
 gn:S.gn ≤ S'.gn
 gl:∀ g,g < S.gn → S'.gl g=S.gl g
 Q:S'.Q=S.Q
 ob:∀ i,i < S.nx → i ∉ X → S'.ob i=S.ob i
 mu:∀ g,g < S.mn → ¬ own X S g → S'.mu g=S.mu g
 own:∀ g,own X S' g → own X S g ∨ S.mn ≤ g
theorem KX.refl (X:List Nat) (S:Sg):KX X S S:=⟨Nat.le_refl _,Nat.le_refl _,Nat.le_refl _,fun _ _=>rfl,rfl,fun _ _ _=>rfl,fun _ _ _=>rfl,fun _ h=>.inl h⟩
theorem KX.trans {X:List Nat} {A B C:Sg} (h:KX X A B) (k:KX X B C):KX X A C:=by
 refine ⟨Nat.le_trans h.nx k.nx,Nat.le_trans h.mn k.mn,Nat.le_trans h.gn k.gn,fun g hg=>(k.gl g (Nat.lt_of_lt_of_le hg h.gn)).trans (h.gl g hg),k.Q.trans h.Q,
  fun i hi hx=>(k.ob i (Nat.lt_of_lt_of_le hi h.nx) hx).trans (h.ob i hi hx),fun g hg ho=>?_,fun g hg=>?_⟩
 ·refine (k.mu g (Nat.lt_of_lt_of_le hg h.mn) fun hb=>?_).trans (h.mu g hg ho)
  rcases h.own g hb with hb | hb
  ·exact ho hb
  omega
 rcases k.own g hg with hg | hg
 ·exact h.own g hg
 exact .inr (Nat.le_trans h.mn hg)
abbrev nilL:AV:=.lit (.slice none 0 0)
def NL (v:AV) (l:List Int) (S:Sg):Prop:=(l=[] ∧ v=nilL) ∨ (∃ g,v=.ms g 0 l.length 1 ∧ S.mu g=some (l.map I) ∧ g < S.mn) ∨ v=ints l
theorem NL.len {v:AV} {l:List Int} {S:Sg} (h:NL v l S):lenOfA false v=some (I l.length):=by
 rcases h with ⟨rfl,rfl⟩ | ⟨g,rfl,_⟩ | rfl
 ·rfl
 ·rfl
 simp [lenOfA,ints,SL,I]
theorem hlenA {c:Caller} {l:List AIns} {E:Nat → Option TV} {L:Nat → Option (List AV)} {n:Nat} {v:Nat → Bool} {D:List (Nat × List AV)} {S:Sg} {Q:Fr → Prop} {d:Nat} {st:Bool} {x:AO} {a y:AV} (h1:evV E x=some a) (h2:lenOfA st a=some y) (k:HL c l ⟨upd E d (some (.val y)),L,n,v,D,S⟩ Q):HL c (⟨some d,none,.len st x⟩ :: l) ⟨E,L,n,v,D,S⟩ Q :=
 hop (by simp only [ins,run1,aop,h1,h2,Obs];rfl) k
theorem NL.at_ {v:AV} {l:List Int} {S:Sg} (h:NL v l S) {i:Nat} {a:Int} (ha:l[i]?=some a):∃ q,iaOf 1 (i:Int) v=some q ∧ ∀ E L n w D,ldAt ⟨E,L,n,w,D,S⟩ true none (.val q)=some (I a):=by
 have hi:i < l.length:=by
  rcases Nat.lt_or_ge i l.length with h | h
  ·exact h
  rw [List.getElem?_eq_none h] at ha;cases ha
 rcases h with ⟨rfl,rfl⟩ | ⟨g,rfl,hg,_⟩ | rfl
 ·cases hi
 ·refine ⟨.mp g (0 + i * 1),?_,fun E L n w D=>?_⟩
  ·simp only [iaOf]
   rw [if_pos ⟨trivial,by omega,by simpa using hi⟩]
   simp
  simp only [ldAt,if_true,hg,Obs,rd]
  simp [ha]
 refine ⟨.cptr [I a] 0,?_,fun E L n w D=>J⟩
 simp only [iaOf]
 simp [ha,I,AV.cells]
structure KL (X:List Nat) (S S':Sg):Prop where
 e:Ext S S'
 mn:S.mn ≤ S'.mn
 mu:∀ g,g < S.mn → g ∉ X → S'.mu g=S.mu g
theorem KL.refl (X:List Nat) (S:Sg):KL X S S:=⟨Ext.refl S,Nat.le_refl _,fun _ _ _=>rfl⟩
theorem KL.trans {X Y:List Nat} {A B C:Sg} (h:KL X A B) (k:KL Y B C) (hY:∀ g ∈ Y,g ∈ X ∨ A.mn ≤ g):KL X A C :=
 ⟨h.e.trans k.e,Nat.le_trans h.mn k.mn,fun g hg hx=>(k.mu g (Nat.lt_of_lt_of_le hg h.mn) fun hy=>(hY g hy).elim hx fun h2=>by omega).trans (h.mu g hg hx)⟩
theorem flat_len {sz:Nat} {xs:List AV} (h:∀ x ∈ xs,x.cells.length=sz):(flat xs).length=xs.length * sz:=by
 induction xs with
 | nil=>simp [flat]
 | cons x l ih =>
   have e:flat (x :: l)=x.cells ++ flat l:=rfl
   rw [e,List.length_append,h x (by simp),ih fun y hy=>h y (by simp [hy]),List.length_cons,Nat.add_mul,Nat.one_mul,Nat.add_comm]
theorem flat_drop {sz:Nat} {xs:List AV} (h:∀ x ∈ xs,x.cells.length=sz) (r:Nat):(flat xs).drop (r * sz)=flat (xs.drop r):=by
 induction xs generalizing r with
 | nil=>simp [flat]
 | cons x l ih =>
   cases r with
   | zero=>simp
   | succ r =>
     have e:flat (x :: l)=x.cells ++ flat l:=rfl
     have hl:x.cells.length=sz:=h x (by simp)
     rw [e,List.drop_succ_cons,← ih (fun y hy=>h y (by simp [hy])) r,List.drop_append,show (r + 1) * sz=x.cells.length + r * sz from by rw [hl,Nat.add_mul,Nat.one_mul,Nat.add_comm]]
     rw [List.drop_eq_nil_of_le (by omega),List.nil_append,Nat.add_sub_cancel_left]
structure MX (X:List Nat) (S S':Sg):Prop where
 ob:S'.ob=S.ob
 nx:S'.nx=S.nx
 gn:S'.gn=S.gn
 gl:S'.gl=S.gl
 Q:S'.Q=S.Q
 mn:S.mn ≤ S'.mn
 mu:∀ g,g < S.mn → g ∉ X → S'.mu g=S.mu g
theorem MX.refl (X:List Nat) (S:Sg):MX X S S:=⟨rfl,rfl,rfl,rfl,rfl,Nat.le_refl _,fun _ _ _=>rfl⟩
theorem MX.ext {X:List Nat} {S S':Sg} (h:MX X S S'):Ext S S':=⟨Nat.le_of_eq h.nx.symm,fun _ _=>by rw [h.ob],Nat.le_of_eq h.gn.symm,fun _ _=>by rw [h.gl],h.Q⟩
theorem MX.trans {X Y:List Nat} {A B C:Sg} (h:MX X A B) (k:MX Y B C) (hY:∀ g ∈ Y,g ∈ X ∨ A.mn ≤ g):MX X A C :=
 ⟨k.ob.trans h.ob,k.nx.trans h.nx,k.gn.trans h.gn,k.gl.trans h.gl,k.Q.trans h.Q,Nat.le_trans h.mn k.mn,fun g hg hx=>(k.mu g (Nat.lt_of_lt_of_le hg h.mn) fun hy=>(hY g hy).elim hx fun h2=>by omega).trans (h.mu g hg hx)⟩
theorem WL.mx {sz n:Nat} {v:AV} {cs:List AV} {X:List Nat} {S S':Sg} (h:WL sz v n cs S) (k:MX X S S') (hX:∀ g ∈ tk v,g ∉ X):WL sz v n cs S' :=
 h.mono (fun g hg=>k.mu g (h.lt g hg) (hX g hg)) k.mn
theorem WL.len {sz n:Nat} {v:AV} {cs:List AV} {S:Sg} (h:WL sz v n cs S):lenOfA false v=some (I n):=by
 rcases h.2 with ⟨rfl,rfl⟩ | ⟨g,rfl,_⟩ <;> rfl
theorem appm_w {sz by_ n k:Nat} {b x:AV} {cs ys:List AV} {S:Sg} (hb:WL sz b n cs S) (hx:srcOf sz S x=some (k,ys)) (hk:ys.length=k * sz) (h:(n + k) * by_ ≤ 2 ^ 47) :
 ∃ b' S',wopOf (.appm sz by_) S [b,x]=some (b',S') ∧ WL sz b' (n + k) (cs ++ ys) S' ∧ MX (tk b) S S' ∧ ∀ g ∈ tk b',g ∈ tk b ∨ S.mn ≤ g:=by
 obtain ⟨hl,hb⟩:=hb
 rcases hb with ⟨rfl,rfl⟩ | ⟨g,rfl,h1,h2⟩
 ·rw [Nat.zero_mul] at hl
  rw [Nat.zero_add] at h
  obtain rfl:cs=[]:=List.length_eq_zero_iff.1 hl
  by_cases hz:k=0
  ·subst hz
   rw [Nat.zero_mul] at hk
   obtain rfl:ys=[]:=List.length_eq_zero_iff.1 hk
   exact ⟨.slice .full sz [],S,by simp only [wopOf,nilS,appmOf,hx,Obs,if_true];rw [if_pos h],⟨by simp,.inl ⟨rfl,rfl⟩⟩,MX.refl _ _,fun g hg=>by cases hg⟩
  refine ⟨.ms S.mn 0 k sz,{ S with mu:=upd S.mu S.mn (some ys),mn:=S.mn + 1 },by simp only [wopOf,nilS,appmOf,hx,Obs,if_true];rw [if_pos h,if_neg hz],⟨by simp [hk],.inr ⟨S.mn,by rw [Nat.zero_add],upd_same _ _ _,Nat.lt_succ_self _⟩⟩,
   ⟨rfl,rfl,rfl,rfl,rfl,Nat.le_succ _,fun g hg _=>upd_ne _ _ (by omega)⟩,fun g hg=>.inr (by rw [List.mem_singleton.1 hg];exact Nat.le_refl _)⟩
 by_cases hz:k=0
 ·subst hz
  rw [Nat.zero_mul] at hk
  obtain rfl:ys=[]:=List.length_eq_zero_iff.1 hk
  exact ⟨.ms g 0 n sz,S,by simp only [wopOf,nilS,appmOf,hx,Obs,h1,if_true,true_and];rw [if_pos ⟨hl,h⟩],⟨by simpa using hl,.inr ⟨g,rfl,by simpa using h1,h2⟩⟩,MX.refl _ _,fun g hg=>.inl hg⟩
 refine ⟨.ms S.mn 0 (n + k) sz,{ S with mu:=upd (upd S.mu g none) S.mn (some (cs ++ ys)),mn:=S.mn + 1 },by simp only [wopOf,nilS,appmOf,hx,Obs,h1,if_true,true_and];rw [if_pos ⟨hl,h⟩,if_neg hz],
  ⟨by rw [List.length_append,hl,hk,Nat.add_mul],.inr ⟨S.mn,rfl,upd_same _ _ _,Nat.lt_succ_self _⟩⟩,⟨rfl,rfl,rfl,rfl,rfl,Nat.le_succ _,fun g' hg hx=>?_⟩,fun g' hg=>.inr (by rw [List.mem_singleton.1 hg];exact Nat.le_refl _)⟩
 show upd (upd S.mu g none) S.mn _ g'=_
 rw [upd_ne _ _ (by omega),upd_ne _ _ (by simpa [tk] using hx)]
def RL (sz:Nat) (v:AV) (xs:List AV) (S:Sg):Prop:=(∀ x ∈ xs,x.cells.length=sz) ∧ ((∃ o,v=.slice o sz xs) ∨ ∃ g off cs,v=.ms g off xs.length sz ∧ S.mu g=some cs ∧ g < S.mn ∧ off + xs.length * sz ≤ cs.length ∧ (cs.drop off).take (xs.length * sz)=flat xs)
theorem RL.len {sz:Nat} {v:AV} {xs:List AV} {S:Sg} (h:RL sz v xs S):lenOfA false v=some (I xs.length):=by
 rcases h.2 with ⟨o,rfl⟩ | ⟨g,off,cs,rfl,_⟩ <;> rfl
theorem RL.src {sz:Nat} {v:AV} {xs:List AV} {S:Sg} (h:RL sz v xs S):srcOf sz S v=some (xs.length,flat xs):=by
 rcases h.2 with ⟨o,rfl⟩ | ⟨g,off,cs,rfl,h1,_,h2,h3⟩
 ·simp [srcOf]
 simp [srcOf,h1,h2,h3]
theorem RL.mono {sz:Nat} {v:AV} {xs:List AV} {S S':Sg} (h:RL sz v xs S) (hm:∀ g ∈ tk v,g < S.mn → S'.mu g=S.mu g) (hn:S.mn ≤ S'.mn):RL sz v xs S':=by
 refine ⟨h.1,h.2.imp id ?_⟩
 rintro ⟨g,off,cs,rfl,h1,h2,h3⟩
 exact ⟨g,off,cs,rfl,(hm g (by simp [tk]) h2).trans h1,Nat.lt_of_lt_of_le h2 hn,h3⟩
theorem RL.mx {sz:Nat} {v:AV} {xs:List AV} {X:List Nat} {S S':Sg} (h:RL sz v xs S) (k:MX X S S') (hX:∀ g ∈ tk v,g ∉ X):RL sz v xs S' :=
 h.mono (fun g hg hl=>k.mu g hl (hX g hg)) k.mn
theorem RL.flen {sz:Nat} {v:AV} {xs:List AV} {S:Sg} (h:RL sz v xs S):(flat xs).length=xs.length * sz:=flat_len h.1
abbrev WE (sz:Nat) (v:AV) (xs:List AV) (S:Sg):Prop:=WL sz v xs.length (flat xs) S
theorem WL.rl {sz:Nat} {v:AV} {xs:List AV} {S:Sg} (h:WE sz v xs S) (hx:∀ x ∈ xs,x.cells.length=sz):RL sz v xs S:=by
 refine ⟨hx,?_⟩
 rcases h.2 with ⟨h0,rfl⟩ | ⟨g,rfl,h1,h2⟩
 ·rw [List.length_eq_zero_iff.1 h0]
  exact .inl ⟨_,rfl⟩
 exact .inr ⟨g,0,_,rfl,h1,h2,by rw [h.1,Nat.zero_add];exact Nat.le_refl _,by rw [List.drop_zero,List.take_of_length_le (Nat.le_of_eq h.1)]⟩
def PT (q:AV) (cs:List AV) (k:Nat) (S:Sg):Prop:=q=.cptr cs k ∨ ∃ g off c,q=.mp g (off + k) ∧ S.mu g=some c ∧ off + cs.length ≤ c.length ∧ (c.drop off).take cs.length=cs
theorem RL.at_ {sz:Nat} {v:AV} {xs:List AV} {S:Sg} (h:RL sz v xs S) {j:Int} {y:AV} (h0:0 ≤ j) (hy:xs[j.toNat]?=some y):∃ q,iaOf sz j v=some q ∧ PT q y.cells 0 S:=by
 have hj:j.toNat < xs.length:=by
  rcases Nat.lt_or_ge j.toNat xs.length with h | h
  ·exact h
  rw [List.getElem?_eq_none h] at hy;cases hy
 have hc:y.cells.length=sz:=h.1 y (Lmg hy)
 rcases h.2 with ⟨o,rfl⟩ | ⟨g,off,cs,rfl,h1,_,h2,h3⟩
 ·exact ⟨.cptr y.cells 0,by simp only [iaOf];rw [if_pos ⟨trivial,h0⟩,hy];rfl,.inl rfl⟩
 have hle:(j.toNat + 1) * sz ≤ xs.length * sz:=Nat.mul_le_mul_right _ hj
 rw [Nat.add_mul,Nat.one_mul] at hle
 refine ⟨.mp g (off + j.toNat * sz),by simp only [iaOf];rw [if_pos ⟨trivial,h0,hj⟩],.inr ⟨g,off + j.toNat * sz,cs,rfl,h1,by omega,?_⟩⟩
 have e:((cs.drop off).take (xs.length * sz)).drop (j.toNat * sz)=flat (xs.drop j.toNat):=by rw [h3,flat_drop h.1]
 have e2:flat (xs.drop j.toNat)=y.cells ++ flat (xs.drop (j.toNat + 1)):=by rw [drop_cons hy];rfl
 rw [e2,List.drop_take,List.drop_drop] at e
 have e3:=congrArg (List.take y.cells.length) e
 rw [List.take_left,List.take_take,Nat.min_eq_left (by omega)] at e3
 rw [hc] at e3 ⊢
 exact e3
theorem PT.ld {q:AV} {cs:List AV} {k:Nat} {S:Sg} (h:PT q cs k S) {m:Option Nat} {y:AV} (hr:rd m cs k=some y) (E:Nat → Option TV) (L:Nat → Option (List AV)) (n:Nat) (w:Nat → Bool) (D:List (Nat × List AV)) :
 ldAt ⟨E,L,n,w,D,S⟩ true m (.val q)=some y:=by
 rcases h with rfl | ⟨g,off,c,rfl,h1,h2,h3⟩
 ·exact hr
 simp only [ldAt,if_true,h1,Obs]
 cases m with
 | none =>
   simp only [rd] at hr ⊢
   have hk:k < cs.length:=by
    rcases Nat.lt_or_ge k cs.length with h | h
    ·exact h
    rw [List.getElem?_eq_none h] at hr;cases hr
   rw [← h3,List.getElem?_take,if_pos hk,List.getElem?_drop] at hr
   exact hr
 | some n =>
   simp only [rd] at hr ⊢
   split at hr
   ·rename_i hk
    cases hr
    rw [if_pos (by omega)]
    refine congrArg (fun x=>some (AV.agg x)) ?_
    conv=>rhs;rw [← h3]
    rw [List.drop_take,List.drop_drop,List.take_take,Nat.min_eq_left (by omega)]
   cases hr
section
variable {c:Caller} {l:List AIns} {E:Nat → Option TV} {L:Nat → Option (List AV)} {n:Nat} {v:Nat → Bool} {D:List (Nat × List AV)} {S:Sg} {Q:Fr → Prop}
theorem hiaR {d sz:Nat} {x i:AO} {a q:AV} {kk:IntKind} {j:Int} (h1:evV E x=some a) (h2:evV E i=some (.lit (.int kk j))) (h3:iaOf sz j a=some q)
 (k:HL c l ⟨upd E d (some (.val q)),L,n,v,D,S⟩ Q):HL c (⟨some d,none,.ia sz x i⟩ :: l) ⟨E,L,n,v,D,S⟩ Q :=
 hop (by simp only [ins,run1,aop,h1,h2,Obs,asN,h3];rfl) k
theorem hldR {d k:Nat} {m:Option Nat} {a:AO} {q y:AV} {cs:List AV} (h1:ev E a=some (.val q)) (h2:PT q cs k S) (h3:rd m cs k=some y)
 (k:HL c l ⟨upd E d (some (.val y)),L,n,v,D,S⟩ Q):HL c (⟨some d,none,.ld true m a⟩ :: l) ⟨E,L,n,v,D,S⟩ Q :=
 hop (by simp only [ins,run1,aop,h1,h2.ld h3,Obs];rfl) k
end
end Go.Sim.W
namespace Go.Sim.Kd
open Go Go.Sim
def kidsA (a:Node):List Node:=if leafOp a.op=true then [] else a.args
def kidsB (a:Node):List Br:=if leafOp a.op=true then [] else a.brs
theorem kidsA_sub (a:Node):∀ b ∈ kidsA a,b ∈ a.args:=by
 unfold kidsA
 split
 ·intro b h;cases h
 exact fun _ h=>h
theorem kidsB_sub (a:Node):∀ b ∈ kidsB a,b ∈ a.brs:=by
 unfold kidsB
 split
 ·intro b h;cases h
 exact fun _ h=>h
theorem kidsA_len (a:Node):(kidsA a).length < a.sz:=by
 have:=a.sz_args
 unfold kidsA
 split
 ·simp only [List.length_nil];omega
 exact this
theorem kidsB_len (a:Node):(kidsB a).length < a.sz:=by
 have:=a.sz_brs
 unfold kidsB
 split
 ·simp only [List.length_nil];omega
 exact this
theorem co_c (s:Sg) (b:Br) (hb:b.co.length ≤ 2 ^ 40) (i:Nat):HC p N69_ [.agg (ints b.vars :: bools b.co :: b.body.cs),I i] s (fun r s'=>r=[B (coAt b.co i)] ∧ s'=s):=by
 refine hcf J f69_ J ?_
 simp only [chainOf]
 refine er (hbox (dq2 J) J (lq7 J) (qp J (qn (kq2 J) (kq1 J) (er (pq5 J (qb ?_))))))
 rintro (_ | _) h1
 ·refine qp J (zq5 J (pq2 J (qn (kq1 J) kn (eret (fqr J ?_)))))
  refine ⟨?_,J⟩
  first
  | (rw [coAt,hx];rfl)
  | (rw [coAt,List.getElem?_eq_none (by simpa using h1)];rfl)
 refine qp J (qg J (qp J (qg J (qp J (qg J (qp J (qg J ?_)))))))
 have hlt:i < b.co.length:=by simpa using h1
 obtain ⟨x,hx⟩:=get_of_lt hlt
 refine hia (y:=B x) rfl rfl (by omega) (by simp [hx]) rfl (qg rfl (qp rfl (qp rfl (qp rfl (qk (kc rfl kn) kn (sqn (eret (fqr rfl ?_))))))))
 refine ⟨?_,J⟩
 first
 | (rw [coAt,hx];rfl)
 | (rw [coAt,List.getElem?_eq_none (by simpa using h1)];rfl)
theorem children_c (s:Sg) (a:Node):HC p N62_ [.agg a.cs] s (fun r s'=>r=[SL 5 ((kidsA a).map Node.enc),SL 7 ((kidsB a).map Br.enc)] ∧ s'=s):=by
 refine hcf J f62_ J ?_
 simp only [chainOf]
 refine er (hbox (dc dn J) J (lq5 J) (pq2 J (qn (kq1 J) (kq1 J) (eseq (er (pq3 J (qb ?_)))))))
 rintro (_ | _) h1
 refine qp J (qg J (qp J (qg J (qp J (qg J (qp J (qb ?_)))))))
 rintro (_ | _) h2
 refine pq2 J (qg J (qp J (qg J (qp J (qg J (qp J (qb ?_)))))))
 rintro (_ | _) h3
 refine qp J (qn (kq2 J) (kq1 J) (ecF J (eskip (sqn (er (pq6 J (qn (kq2 J) kn (eret (fqr J ?_)))))))))
 rotate_left
 refine qp J (qn (kq2 J) (kq1 J) (ecT J (er (pq2 J (qn (kq2 J) kn (eret (sqr (fqr J ?_))))))))
 rotate_left
 refine pq2 J (zq3 J (qp J (qn (kq2 J) (kq1 J) (ecT J (er (pq2 J (qn (kq2 J) kn (eret (sqr (fqr J ?_))))))))))
 rotate_left
 refine qp J (zq3 J (pq2 J (zq3 J (qp J (qn (kq2 J) (kq1 J) (ecT J (er (pq2 J (qn (kq2 J) kn (eret (sqr (fqr J ?_))))))))))))
 rotate_left
 all_goals
  refine ⟨?_,J⟩
  first
  | (have e:leafOp a.op=true:=by simp only [leafOp];simp_all
     rw [kidsA,kidsB,if_pos e,if_pos e];rfl)
  | (have e:¬ leafOp a.op=true:=by simp only [leafOp];simp_all
     rw [kidsA,kidsB,if_neg e,if_neg e];rfl)
def encZ (p:Nat × Nat):AV:=.agg [I (p.1:Int),I (p.2:Int)]
theorem encZ_sz (l:List (Nat × Nat)):∀ x ∈ l.map encZ,x.cells.length=2:=by
 intro x hx
 obtain ⟨p,_,rfl⟩:=List.mem_map.1 hx
 rfl
def LN (v:AV) (l:List (Nat × Nat)) (S:Sg):Prop:=(l=[] ∧ v=.lit (.slice none 0 0)) ∨ (l ≠ [] ∧ W.WE 2 v (l.map encZ) S)
def LB (v:AV) (l:List (Nat × Nat)) (S:Sg):Prop:=(l=[] ∧ v=.slice .full 2 []) ∨ (l ≠ [] ∧ W.WE 2 v (l.map encZ) S)
theorem LN.wl {v:AV} {l:List (Nat × Nat)} {S:Sg} (h:LN v l S):W.WL 2 (nilS 2 v) (l.map encZ).length (flat (l.map encZ)) S:=by
 rcases h with ⟨rfl,rfl⟩ | ⟨h0,h⟩
 ·exact ⟨rfl,.inl ⟨rfl,rfl⟩⟩
 rcases h.2 with ⟨e,_⟩ | ⟨g,rfl,_⟩
 ·exact absurd (by simpa using e) h0
 exact h
theorem LB.wl {v:AV} {l:List (Nat × Nat)} {S:Sg} (h:LB v l S):W.WL 2 v (l.map encZ).length (flat (l.map encZ)) S:=by
 rcases h with ⟨rfl,rfl⟩ | ⟨h0,h⟩
 ·exact ⟨rfl,.inl ⟨rfl,rfl⟩⟩
 exact h
theorem nilS_ne {sz:Nat} {v:AV} (h:v ≠ .lit (.slice none 0 0)):nilS sz v=v:=by
 unfold nilS
 split
 ·exact absurd rfl h
 rfl
theorem wop_nil {sz by_:Nat} {S:Sg} {v x:AV}:wopOf (.appm sz by_) S [v,x]=wopOf (.appm sz by_) S [nilS sz v,x]:=by
 by_cases h:v=.lit (.slice none 0 0)
 ·subst h;rfl
 rw [nilS_ne h]
theorem ap1 {v:AV} {l:List (Nat × Nat)} {S:Sg} (p:Nat × Nat) (h:W.WL 2 (nilS 2 v) (l.map encZ).length (flat (l.map encZ)) S) (hl:l.length ≤ 2 ^ 40) :
 ∃ b' S',wopOf (.appm 2 16) S [v,.slice .full 2 [encZ p]]=some (b',S') ∧ W.WE 2 b' ((l ++ [p]).map encZ) S' ∧ W.MX (W.tk v) S S' ∧ ∀ g ∈ W.tk b',g ∈ W.tk v ∨ S.mn ≤ g:=by
 obtain ⟨b',S',h1,h2,h3,h4⟩:=W.appm_w (sz:=2) (by_:=16) (x:=.slice .full 2 [encZ p]) (k:=1) (ys:=flat [encZ p]) h rfl rfl (by rw [List.length_map];omega)
 have ht:W.tk (nilS 2 v)=W.tk v:=by
  unfold nilS
  split <;> rfl
 rw [ht] at h3 h4
 refine ⟨b',S',by rw [wop_nil];exact h1,?_,h3,h4⟩
 have e:flat ((l ++ [p]).map encZ)=flat (l.map encZ) ++ flat [encZ p]:=by simp [flat]
 have e2:((l ++ [p]).map encZ).length=(l.map encZ).length + 1:=by simp
 show W.WL 2 b' ((l ++ [p]).map encZ).length (flat ((l ++ [p]).map encZ)) S'
 rw [e,e2]
 exact h2
theorem apN {v:AV} {l:List (Nat × Nat)} {S:Sg} (p:Nat × Nat) (h:LN v l S) (hl:l.length ≤ 2 ^ 40) :
 ∃ b' S',wopOf (.appm 2 16) S [v,.slice .full 2 [encZ p]]=some (b',S') ∧ LN b' (l ++ [p]) S' ∧ W.MX (W.tk v) S S' ∧ ∀ g ∈ W.tk b',g ∈ W.tk v ∨ S.mn ≤ g:=by
 obtain ⟨b',S',h1,h2,h3,h4⟩:=ap1 p h.wl hl
 exact ⟨b',S',h1,.inr ⟨by simp,h2⟩,h3,h4⟩
theorem apB {v:AV} {l:List (Nat × Nat)} {S:Sg} (p:Nat × Nat) (h:LB v l S) (hl:l.length ≤ 2 ^ 40) :
 ∃ b' S',wopOf (.appm 2 16) S [v,.slice .full 2 [encZ p]]=some (b',S') ∧ LB b' (l ++ [p]) S' ∧ W.MX (W.tk v) S S' ∧ ∀ g ∈ W.tk b',g ∈ W.tk v ∨ S.mn ≤ g:=by
 have hw:nilS 2 v=v:=by
  rcases h with ⟨_,rfl⟩ | ⟨h0,h⟩
  ·rfl
  rcases h.2 with ⟨e,_⟩ | ⟨g,rfl,_⟩
  ·exact absurd (by simpa using e) h0
  rfl
 obtain ⟨b',S',h1,h2,h3,h4⟩:=ap1 (v:=v) p (by rw [hw];exact h.wl) hl
 exact ⟨b',S',h1,.inr ⟨by simp,h2⟩,h3,h4⟩
theorem LN.mono {v:AV} {l:List (Nat × Nat)} {S S':Sg} {X:List Nat} (h:LN v l S) (k:W.MX X S S') (hX:∀ g ∈ W.tk v,g ∉ X):LN v l S' :=
 h.imp id fun ⟨h0,h1⟩=>⟨h0,h1.1,h1.2.imp id fun ⟨g,e,h2,h3⟩=>⟨g,e,(k.mu g h3 (hX g (by rw [e];simp [W.tk]))).trans h2,Nat.lt_of_lt_of_le h3 k.mn⟩⟩
theorem LB.mono {v:AV} {l:List (Nat × Nat)} {S S':Sg} {X:List Nat} (h:LB v l S) (k:W.MX X S S') (hX:∀ g ∈ W.tk v,g ∉ X):LB v l S' :=
 h.imp id fun ⟨h0,h1⟩=>⟨h0,h1.1,h1.2.imp id fun ⟨g,e,h2,h3⟩=>⟨g,e,(k.mu g h3 (hX g (by rw [e];simp [W.tk]))).trans h2,Nat.lt_of_lt_of_le h3 k.mn⟩⟩
theorem LN.er {v:AV} {l:List (Nat × Nat)} {S:Sg} (h:LN v l S):v.er=v:=by
 rcases h with ⟨_,rfl⟩ | ⟨h0,h⟩
 ·rfl
 rcases h.2 with ⟨e,_⟩ | ⟨g,rfl,_⟩
 ·exact absurd (by simpa using e) h0
 rfl
theorem LB.rl {v:AV} {l:List (Nat × Nat)} {S:Sg} (h:LB v l S):W.RL 2 v.er (l.map encZ) S:=by
 rcases h with ⟨rfl,rfl⟩ | ⟨h0,h⟩
 ·exact ⟨encZ_sz _,.inl ⟨_,rfl⟩⟩
 rcases h.2 with ⟨e,_⟩ | ⟨g,rfl,_⟩
 ·exact absurd (by simpa using e) h0
 exact h.rl (encZ_sz _)
def sumZ (l:List (Nat × Nat)):Nat:=(l.map fun p=>p.1).sum
def maxZ:List (Nat × Nat) → Nat
 | []=>1
 | p :: l=>max (p.2 + 1) (maxZ l)
def maxA (m:Nat) (l:List (Nat × Nat)):Nat:=l.foldl (fun m p=>max m (p.2 + 1)) m
theorem siz1_l (u:AV) (l:List (Nat × Nat)) (hl:l.length ≤ 2 ^ 42) (hb:∀ p ∈ l,p.1 ≤ 2 ^ 41 ∧ p.2 ≤ 2 ^ 41) (i:Nat) (hi:i ≤ l.length) (x y:Nat) (hx:x + sumZ (l.drop i) ≤ 2 ^ 42) (hy:y ≤ 2 ^ 42) {n:Nat} {v:Nat → Bool} {D:List (Nat × List AV)} {S:Sg} {Q:Ex → Fr → Prop} (hu:W.RL 2 u (l.map encZ) S)
 (hX:∀ j,Q (.exit 0) ⟨upd (upd (uv (uv (uv (uv e0 16 (B false)) 15 (I j)) 14 (I l.length)) 13 (u)) 7 (some (.loc 7 0))) 6 (some (.loc 6 0)),upd (upd ((fun _=>none)) 7 (some ([I ((x + sumZ (l.drop i):Nat):Int),I ((maxA y (l.drop i):Nat):Int)]))) 6 (some ([I 0,I 0])),n,v,D,S⟩):EX (callL p) (.loop F71_l1) ⟨upd (upd (uv (uv (uv e0 15 (I i)) 14 (I l.length)) 13 (u)) 7 (some (.loc 7 0))) 6 (some (.loc 6 0)),upd (upd ((fun _=>none)) 7 (some ([I x,I y]))) 6 (some ([I 0,I 0])),n,v,D,S⟩ Q:=by
 refine eloop (er (qp J (qb ?_)))
 rintro (_ | _) h1
 ·refine qn (kq6 J) (kq2 J) (eseq (ecF J (eexit (sqx ?_))))
  have hz:l.drop i=[]:=List.drop_eq_nil_of_le (by simp at h1;omega)
  have:=hX i
  rw [hz] at this
  exact this
 refine qn (kq6 J) (kq2 J) (eseq (ecT J (eskip (sqn (eseq (eblock (er ?_)))))))
 have hlt:i < l.length:=by simpa using h1
 obtain ⟨p,hp⟩:=get_of_lt hlt
 have hdp:=drop_cons hp
 obtain ⟨b1,b2⟩:=hb p (Lmg hp)
 have e1:sumZ (p :: l.drop (i + 1))=p.1 + sumZ (l.drop (i + 1)):=by simp [sumZ]
 rw [hdp,e1] at hx
 obtain ⟨q,q1,q2⟩:=hu.at_ (j:=(i:Int)) (y:=encZ p) (by omega) (by rw [Lgm,Int.toNat_natCast,hp];rfl)
 refine W.hiaR rfl rfl q1 (W.hldR (y:=.agg [I p.1,I p.2]) rfl q2 rfl (hal (dc (dc (dc (dc (dc (dc (dc (dc dn rfl) rfl) rfl) rfl) rfl) rfl) rfl) rfl) (hstl rfl rfl rfl rfl (Nlb rfl) (lc rfl (lc rfl (ln rfl))) (qk (kc rfl (kc rfl (kc rfl (kc rfl (kc rfl (kc rfl kn)))))) (kc rfl (kc rfl (kc rfl kn))) (sqn (eseq (ereg (qp rfl (qp rfl (qp rfl (qp rfl (hadd (r:=((x + p.1:Nat):Int)) rfl rfl ((i64w (by omega)).trans (by omega)) (qp rfl (hstl rfl rfl rfl rfl (Nlb rfl) (lc rfl (lc rfl (ln rfl))) (qk (kc rfl (kc rfl (kc rfl (kc rfl (kc rfl (kc rfl kn)))))) (kc rfl (kc rfl (kc rfl kn))) (sqn (ereg (qp rfl (qp rfl (qp rfl (qp rfl (hadd (r:=((p.2 + 1:Nat):Int)) rfl rfl ((i64w (by omega)).trans (by omega)) (qp rfl ?_)))))))))))))))))))))))
 refine qp J (hstl J J J J (Nlb J) (lq2 J) (qk (kq5 J) (kq2 J) (bqn (sqn (ereg (hadd J J (i64w (by omega)) (qp J (qk (kq5 J) (kq2 J) ?_))))))))
 rw [show (if (((p.2 + 1:Nat):Int)) > (y:Int) then (((p.2 + 1:Nat):Int)) else (y:Int))=((max y (p.2 + 1):Nat):Int) from by split <;> omega]
 refine siz1_l u l hl hb (i + 1) (by omega) (x + p.1) (max y (p.2 + 1)) (by omega) (by omega) hu fun j=>?_
 have:=hX j
 rw [hdp,e1,maxA,List.foldl_cons] at this
 rw [Nat.add_assoc]
 exact this
termination_by l.length - i
decreasing_by all_goals omega
theorem sumZ_app (l m:List (Nat × Nat)):sumZ (l ++ m)=sumZ l + sumZ m:=by simp [sumZ]
theorem maxA_app (m:Nat) (l k:List (Nat × Nat)):maxA m (l ++ k)=maxA (maxA m l) k:=List.foldl_append
theorem ap2 {v u:AV} {l m:List (Nat × Nat)} {S:Sg} (h:LN v l S) (hu:W.RL 2 u (m.map encZ) S) (hl:l.length + m.length ≤ 2 ^ 42) :
 ∃ b' S',wopOf (.appm 2 16) S [v,u]=some (b',S') ∧ W.RL 2 b' ((l ++ m).map encZ) S' ∧ W.MX (W.tk v) S S' ∧ lenOfA false b'=some (I (l ++ m).length):=by
 obtain ⟨b',S',h1,h2,h3,_⟩:=W.appm_w (sz:=2) (by_:=16) (x:=u) (k:=m.length) (ys:=flat (m.map encZ)) h.wl (by have:=hu.src;rw [List.length_map] at this;exact this) (by have:=hu.flen;rw [List.length_map] at this;exact this) (by rw [List.length_map];omega)
 have ht:W.tk (nilS 2 v)=W.tk v:=by
  unfold nilS
  split <;> rfl
 rw [ht] at h3
 have e:flat (l.map encZ) ++ flat (m.map encZ)=flat ((l ++ m).map encZ):=by simp [flat]
 have e2:(l.map encZ).length + m.length=((l ++ m).map encZ).length:=by simp
 rw [e,e2] at h2
 have hr:=W.WL.rl (xs:=(l ++ m).map encZ) h2 (encZ_sz _)
 refine ⟨b',S',by rw [wop_nil];exact h1,hr,h3,?_⟩
 have:=hr.len
 rw [List.length_map] at this
 exact this
theorem Siz1_c (s:Sg) (a:Node) (va vb:AV) (l m:List (Nat × Nat)) (ha:LN va l s) (hb:W.RL 2 vb (m.map encZ) s) (hl:l.length + m.length ≤ 2 ^ 42) (h1:∀ p ∈ l ++ m,p.1 ≤ 2 ^ 41 ∧ p.2 ≤ 2 ^ 41) (hs:1 + sumZ (l ++ m) ≤ 2 ^ 42):HC p N71_ [.agg a.cs,va,vb] s (fun r s'=>r=[.agg [I ((1 + sumZ (l ++ m):Nat):Int),I ((maxA 1 (l ++ m):Nat):Int)]] ∧ W.MX (W.tk va) s s'):=by
 refine hcf J f71_ J ?_
 simp only [chainOf]
 refine er (hbox (dq3 J) J (lq5 J) (hal (dq4 J) (qn (kq3 J) (kq1 J) (er (hbuild J J (lq2 J) (hal (dq4 J) (hstl J J J J (Nlb J) (lq2 J) (qn (kq4 J) (kq2 J) (eseq (er (pq2 J ?_)))))))))))
 obtain ⟨b',S',w1,w2,w3,w4⟩:=ap2 ha hb hl
 refine hwop J w1 (W.hlenA J w4 (qp J (qn (kq5 J) (kq2 J) (eblock (siz1_l b' (l ++ m) (by simpa using hl) h1 0 (by omega) 1 1 (by simpa using hs) (by decide) w2 ?_)))))
 intro j
 refine bqx (sqn (er (hlda J J (lq2 J) (hstl J J J J (Nlb J) (lq2 J) (qn (kq1 J) (kq1 J) (eret (fqr J ?_)))))))
 exact ⟨rfl,w3⟩
def szP (a:Node):Nat × Nat:=(nNodes a,nDepth a)
def szPs (a:Node):List (Nat × Nat):=(kidsA a).map szP ++ (kidsB a).map fun b=>szP b.body
theorem sum_szL {α:Type} (f:α → Nat × Nat) (l:List α):sumZ (l.map f)=szL (fun a=>(f a).1) l:=by
 induction l with
 | nil=>rfl
 | cons a l ih=>simp only [sumZ,List.map_cons,List.sum_cons,szL] at ih ⊢;rw [ih]
theorem maxA_mxL {α:Type} (f:α → Nat × Nat) (l:List α) (m:Nat):maxA (m + 1) (l.map f)=max m (mxL (fun a=>(f a).2) l) + 1:=by
 induction l generalizing m with
 | nil=>simp [maxA,mxL]
 | cons a l ih =>
   rw [List.map_cons,maxA,List.foldl_cons]
   have:=ih (max m (f a).2)
   rw [maxA] at this
   rw [show max (m + 1) ((f a).2 + 1)=max m (f a).2 + 1 from by omega,this,mxL]
   omega
theorem szPs_eq (a:Node):1 + sumZ (szPs a)=nNodes a ∧ maxA 1 (szPs a)=nDepth a:=by
 unfold szPs
 rw [sumZ_app,maxA_app,sum_szL,sum_szL,show maxA 1 ((kidsA a).map szP)=max 0 (mxL (fun a=>(szP a).2) (kidsA a)) + 1 from maxA_mxL szP _ 0,maxA_mxL,nNodes_eq,nDepth_eq]
 unfold kidsA kidsB
 by_cases h:leafOp a.op=true
 ·simp only [if_pos h]
  exact ⟨rfl,rfl⟩
 simp only [if_neg h]
 refine ⟨?_,?_⟩
 ·show 1 + (szL nNodes a.args + szL (fun b=>nNodes b.body) a.brs)=_
  omega
 show max (max 0 (mxL nDepth a.args)) (mxL (fun b=>nDepth b.body) a.brs) + 1=_
 omega
theorem szPs_bd (a:Node) (hz:a.sz ≤ 2 ^ 40):(∀ p ∈ szPs a,p.1 ≤ 2 ^ 41 ∧ p.2 ≤ 2 ^ 41) ∧ 1 + sumZ (szPs a) ≤ 2 ^ 42:=by
 have h1:=nNodes_all a
 have h2:=nAll_sz a
 refine ⟨fun p hp=>?_,by rw [(szPs_eq a).1];omega⟩
 have key:∀ b:Node,b.sz ≤ 2 ^ 40 → nNodes b ≤ 2 ^ 41 ∧ nDepth b ≤ 2 ^ 41:=fun b hb=>by
  have k1:=nNodes_all b
  have k2:=nDepth_all b
  have k3:=nAll_sz b
  omega
 rcases List.mem_append.1 hp with hp | hp
 ·obtain ⟨b,hb,rfl⟩:=List.mem_map.1 hp
  have:=Node.sz_arg (kidsA_sub a b hb)
  exact key b (by omega)
 obtain ⟨b,hb,rfl⟩:=List.mem_map.1 hp
 have:=Node.sz_br (kidsB_sub a b hb)
 have:=b.sz_body
 exact key b.body (by omega)
def FoldC (b:Node):Prop:=∀ (s:Sg),HC p N70_ [.agg b.cs,.fn N71_ [] []] s (fun r s'=>r=[.agg [I (nNodes b),I (nDepth b)]] ∧ W.MX [] s s')
theorem MX0 {X:List Nat} {A B C:Sg} (h:W.MX [] A B) (k:W.MX X B C) (hX:∀ g ∈ X,A.mn ≤ g):W.MX [] A C :=
 ⟨k.ob.trans h.ob,k.nx.trans h.nx,k.gn.trans h.gn,k.gl.trans h.gl,k.Q.trans h.Q,Nat.le_trans h.mn k.mn,fun g hg _=>(k.mu g (Nat.lt_of_lt_of_le hg h.mn) fun hx=>by have:=hX g hx;omega).trans (h.mu g hg (by simp))⟩
theorem LN.lt {v:AV} {l:List (Nat × Nat)} {S:Sg} (h:LN v l S):∀ g ∈ W.tk v,g < S.mn:=by
 rcases h with ⟨rfl,rfl⟩ | ⟨h0,h⟩
 ·intro g hg;cases hg
 rcases h.2 with ⟨e,_⟩ | ⟨g,rfl,_,hl⟩
 ·exact absurd (by simpa using e) h0
 intro g' hg
 rw [List.mem_singleton.1 hg]
 exact hl
theorem LB.lt {v:AV} {l:List (Nat × Nat)} {S:Sg} (h:LB v l S):∀ g ∈ W.tk v,g < S.mn:=by
 rcases h with ⟨rfl,rfl⟩ | ⟨h0,h⟩
 ·intro g hg;cases hg
 rcases h.2 with ⟨e,_⟩ | ⟨g,rfl,_,hl⟩
 ·exact absurd (by simpa using e) h0
 intro g' hg
 rw [List.mem_singleton.1 hg]
 exact hl
theorem fold_l1 (s0:Sg) (a:Node) (hz:a.sz ≤ 2 ^ 40) (H:∀ b ∈ kidsA a,FoldC b) (i:Nat) (hi:i ≤ (kidsA a).length) (v5:AV) {n:Nat} {v:Nat → Bool} {D:List (Nat × List AV)} {S:Sg} {Q:Ex → Fr → Prop} (hm:W.MX [] s0 S) (h5:LN v5 (((kidsA a).take i).map szP) S) (ht:∀ g ∈ W.tk v5,s0.mn ≤ g)
 (hX:∀ j v' S',W.MX [] s0 S' → LN v' ((kidsA a).map szP) S' → (∀ g ∈ W.tk v',s0.mn ≤ g) → Q (.exit 0) ⟨uv (upd (upd (uv (uv (uv (uv (uv (uv (uv e0 21 (B false)) 20 (I j)) 19 (I ((kidsA a).map Node.enc).length)) 18 (SL 5 ((kidsA a).map Node.enc))) 8 (SL 7 ((kidsB a).map Br.enc))) 6 (.slice .full 2 [])) 5 (v')) 4 (some (.loc 4 0))) 2 (some (.loc 2 0))) 1 (.fn N71_ [] []),upd (upd ((fun _=>none)) 4 (some ([I 0,I 0]))) 2 (some (a.cs)),n,v,D,S'⟩):EX (callL p) (.loop F70_l1) ⟨uv (upd (upd (uv (uv (uv (uv (uv (uv e0 20 (I i)) 19 (I ((kidsA a).map Node.enc).length)) 18 (SL 5 ((kidsA a).map Node.enc))) 8 (SL 7 ((kidsB a).map Br.enc))) 6 (.slice .full 2 [])) 5 (v5)) 4 (some (.loc 4 0))) 2 (some (.loc 2 0))) 1 (.fn N71_ [] []),upd (upd ((fun _=>none)) 4 (some ([I 0,I 0]))) 2 (some (a.cs)),n,v,D,S⟩ Q:=by
 refine eloop (er (qp J (qb ?_)))
 rintro (_ | _) h1
 ·refine qn (kq10 J) (kq2 J) (eseq (ecF J (eexit (sqx ?_))))
  have e:(kidsA a).take i=kidsA a:=List.take_of_length_le (by simp at h1;omega)
  rw [e] at h5
  exact hX _ _ _ hm h5 ht
 refine qn (kq10 J) (kq2 J) (eseq (ecT J (eskip (sqn (eseq (eblock (er ?_)))))))
 have hlt:i < (kidsA a).length:=by simpa using h1
 obtain ⟨b,hb⟩:=get_of_lt hlt
 refine hia (y:=.agg b.cs) rfl rfl (by omega) (by simp [hb,Node.enc_eq]) rfl (W.hldR (y:=.agg b.cs) rfl (.inl rfl) rfl (hal (dc (dc (dc (dc (dc (dc (dc (dc (dc (dc (dc (dc dn rfl) rfl) rfl) rfl) rfl) rfl) rfl) rfl) rfl) rfl) rfl) rfl) (hstl rfl rfl rfl rfl (Nlb rfl) (lc rfl (lc rfl (lc rfl (lc rfl (lc rfl (ln rfl)))))) (qk (kc rfl (kc rfl (kc rfl (kc rfl (kc rfl (kc rfl (kc rfl (kc rfl (kc rfl (kc rfl kn)))))))))) (kc rfl (kc rfl (kc rfl kn))) (sqn (ereg (qp rfl (hlda rfl rfl (lc rfl (lc rfl (lc rfl (lc rfl (lc rfl (ln rfl)))))) (qp rfl (hcall rfl rfl rfl (H b (Lmg hb) _) ?_))))))))))
 rintro _ S1 ⟨rfl,k1⟩
 have m1:=MX0 hm k1 (fun g hg=>by cases hg)
 have h51:=h5.mono k1 (fun g _ hg=>by cases hg)
 refine hbsl (q':=[encZ (szP b)]) rfl rfl rfl ?_
 have hlen:=kidsA_len a
 obtain ⟨b2,S2,w1,w2,w3,w4⟩:=apN (szP b) h51 (by rw [List.length_map,List.length_take];omega)
 refine hwop J w1 (qp J (qk (kq9 J) (kq2 J) (bqn (sqn (ereg (hadd J J (i64w (by omega)) (qp J (qk (kq9 J) (kq2 J) ?_))))))))
 exact fold_l1 s0 a hz H (i + 1) (by omega) b2 (MX0 m1 w3 fun g hg=>ht g hg) (by rw [List.take_add_one,hb,List.map_append];exact w2) (fun g hg=>(w4 g hg).elim (ht g) fun h=>Nat.le_trans m1.mn h) hX
termination_by (kidsA a).length - i
decreasing_by all_goals omega
theorem fold_l2 (s0:Sg) (a:Node) (hz:a.sz ≤ 2 ^ 40) (H:∀ b ∈ kidsB a,FoldC b.body) (v5:AV) (i:Nat) (hi:i ≤ (kidsB a).length) (v6:AV) {n:Nat} {v:Nat → Bool} {D:List (Nat × List AV)} {S:Sg} {Q:Ex → Fr → Prop} (hm:W.MX [] s0 S) (h5:LN v5 ((kidsA a).map szP) S) (ht5:∀ g ∈ W.tk v5,s0.mn ≤ g)
 (h6:LB v6 (((kidsB a).take i).map fun b=>szP b.body) S) (ht:∀ g ∈ W.tk v6,s0.mn ≤ g) (hd:∀ g ∈ W.tk v6,g ∉ W.tk v5)
 (hX:∀ j v' S',W.MX [] s0 S' → LN v5 ((kidsA a).map szP) S' → LB v' ((kidsB a).map fun b=>szP b.body) S' → Q (.exit 2) ⟨uv (upd (upd (uv (uv (uv (uv (uv (uv e0 34 (B false)) 33 (I j)) 32 (I ((kidsB a).map Br.enc).length)) 31 (SL 7 ((kidsB a).map Br.enc))) 6 (v')) 5 (v5)) 4 (some (.loc 4 0))) 2 (some (.loc 2 0))) 1 (.fn N71_ [] []),upd (upd ((fun _=>none)) 4 (some ([I 0,I 0]))) 2 (some (a.cs)),n,v,D,S'⟩):EX (callL p) (.loop F70_l2) ⟨uv (upd (upd (uv (uv (uv (uv (uv e0 33 (I i)) 32 (I ((kidsB a).map Br.enc).length)) 31 (SL 7 ((kidsB a).map Br.enc))) 6 (v6)) 5 (v5)) 4 (some (.loc 4 0))) 2 (some (.loc 2 0))) 1 (.fn N71_ [] []),upd (upd ((fun _=>none)) 4 (some ([I 0,I 0]))) 2 (some (a.cs)),n,v,D,S⟩ Q:=by
 refine eloop (er (qp J (qb ?_)))
 rintro (_ | _) h1
 ·refine qn (kq9 J) (kq2 J) (eseq (ecF J (eexit (sqx ?_))))
  have e:(kidsB a).take i=kidsB a:=List.take_of_length_le (by simp at h1;omega)
  rw [e] at h6
  exact hX _ _ _ hm h5 h6
 refine qn (kq9 J) (kq2 J) (eseq (ecT J (eskip (sqn (eseq (eblock (er ?_)))))))
 have hlt:i < (kidsB a).length:=by simpa using h1
 obtain ⟨b,hb⟩:=get_of_lt hlt
 refine hia (y:=.agg (ints b.vars :: bools b.co :: b.body.cs)) rfl rfl (by omega) (by simp [hb,Br.enc_eq]) rfl (W.hldR (y:=.agg (ints b.vars :: bools b.co :: b.body.cs)) rfl (.inl rfl) rfl (hal (dc (dc (dc (dc (dc (dc (dc (dc (dc (dc (dc dn rfl) rfl) rfl) rfl) rfl) rfl) rfl) rfl) rfl) rfl) rfl) (hstl rfl rfl rfl rfl (Nlb rfl) (lc rfl (lc rfl (lc rfl (lc rfl (lc rfl (lc rfl (lc rfl (ln rfl)))))))) (qk (kc rfl (kc rfl (kc rfl (kc rfl (kc rfl (kc rfl (kc rfl (kc rfl (kc rfl kn))))))))) (kc rfl (kc rfl (kc rfl kn))) (sqn (ereg (qp rfl (qp rfl (hlda rfl rfl (lc rfl (lc rfl (lc rfl (lc rfl (lc rfl (ln rfl)))))) (qp rfl (hcall rfl rfl rfl (H b (Lmg hb) _) ?_)))))))))))
 rintro _ S1 ⟨rfl,k1⟩
 have m1:=MX0 hm k1 (fun g hg=>by cases hg)
 have h51:=h5.mono k1 (fun g _ hg=>by cases hg)
 have h61:=h6.mono k1 (fun g _ hg=>by cases hg)
 refine hbsl (q':=[encZ (szP b.body)]) rfl rfl rfl ?_
 have hlen:=kidsB_len a
 obtain ⟨b2,S2,w1,w2,w3,w4⟩:=apB (szP b.body) h61 (by rw [List.length_map,List.length_take];omega)
 refine hwop J w1 (qp J (qk (kq8 J) (kq2 J) (bqn (sqn (ereg (hadd J J (i64w (by omega)) (qp J (qk (kq8 J) (kq2 J) ?_))))))))
 exact fold_l2 s0 a hz H v5 (i + 1) (by omega) b2 (MX0 m1 w3 fun g hg=>ht g hg) (h51.mono w3 fun g hg hx=>hd g hx hg) ht5 (by rw [List.take_add_one,hb,List.map_append];exact w2) (fun g hg=>(w4 g hg).elim (ht g) fun h=>Nat.le_trans m1.mn h) (fun g hg hx=>(w4 g hg).elim (fun h=>hd g h hx) fun h=>by have:=h51.lt g hx;omega) hX
termination_by (kidsB a).length - i
decreasing_by all_goals omega
theorem fold_c0 (a:Node) (hz:a.sz ≤ 2 ^ 40) (H1:∀ b ∈ kidsA a,FoldC b) (H2:∀ b ∈ kidsB a,FoldC b.body) (s:Sg):HC p N70_ [.agg a.cs,.fn N71_ [] []] s (fun r s'=>r=[.agg [I (nNodes a),I (nDepth a)]] ∧ W.MX [] s s'):=by
 refine hcf J f70_ J ?_
 simp only [chainOf]
 refine er (hbox (dq2 J) J (lq5 J) (hal (dq3 J) (qn (kq3 J) (kq2 J) (er (pq2 J (qn (kq5 J) (kq2 J) (er (hlda J J (lq5 J) (hcall J J J (children_c _ _) ?_)))))))))
 rintro _ _ ⟨rfl,hq⟩
 obtain rfl:=hq.symm
 refine pq5 J (qn (kq7 J) (kq2 J) (eseq (er (pq3 J (qn (kq9 J) (kq2 J) (eblock (fold_l1 s a hz H1 0 (Nat.zero_le _) (.lit (.slice none 0 0)) (W.MX.refl _ _) (.inl ⟨J,J⟩) (fun g hg=>by cases hg) ?_)))))))
 intro j1 v1 S1 m1 e1 t1
 refine bqx (sqn (eseq (er (pq3 J (qn (kq8 J) (kq2 J) (eblock (fold_l2 s a hz H2 v1 0 (Nat.zero_le _) (.slice .full 2 []) m1 e1 t1 (.inl ⟨J,J⟩) (fun g hg=>by cases hg) (fun g hg=>by cases hg) ?_)))))))
 intro j2 v2 S2 m2 e2 e3
 refine bqx (sqn (eseq (ereg (qp rfl (hlda rfl rfl (lc rfl (lc rfl (lc rfl (lc rfl (lc rfl (ln rfl)))))) (qp rfl (qp rfl (hcall rfl rfl rfl (Siz1_c _ a v1.er v2.er ((kidsA a).map szP) ((kidsB a).map fun b:Br=>szP b.body) (by rw [e2.er];exact e2) e3.rl (by have:=kidsA_len a;have:=kidsB_len a;simp only [List.length_map];omega) (szPs_bd a hz).1 (szPs_bd a hz).2) ?_))))))))
 rintro _ S3 ⟨rfl,k3⟩
 rw [e2.er] at k3
 refine hstl J J J J (Nlb J) (lq2 J) (qn (kq1 J) (kq1 J) (eret (fqr J ?_)))
 obtain ⟨z1,z2⟩:=szPs_eq a
 unfold szPs at z1 z2
 rw [z1,z2]
 exact ⟨rfl,MX0 m2 k3 t1⟩
theorem fold_c (a:Node) (hz:a.sz ≤ 2 ^ 40):FoldC a:=by
 induction a using Node.ind with
 | h a ih1 ih2 =>
   exact fold_c0 a hz (fun b hb=>ih1 b (kidsA_sub a b hb) (by have:=Node.sz_arg (kidsA_sub a b hb);omega)) (fun b hb=>ih2 b (kidsB_sub a b hb) (by have:=Node.sz_br (kidsB_sub a b hb);have:=b.sz_body;omega))
theorem CSize_c (s:Sg) (a:Node) (hz:a.sz ≤ 2 ^ 40):HC p N60_ [.agg a.cs] s (fun r s'=>r=[I (nNodes a),I (nDepth a)] ∧ W.MX [] s s'):=by
 refine hcf J f60_ J ?_
 simp only [chainOf]
 refine er (hbox (dc dn J) J (lq5 J) (pq2 J (qn (kq1 J) (kq1 J) (er (hlda J J (lq5 J) (hcall J J J (fold_c a hz _) ?_))))))
 rintro _ S1 ⟨rfl,k1⟩
 refine hal (dq3 J) (hstl J J J J (Nlb J) (lq2 J) (qn (kq1 J) (kq1 J) (er (pq6 J (qn (kq2 J) kn (eret (fqr J ?_)))))))
 exact ⟨rfl,k1⟩
end Go.Sim.Kd
namespace Go.Sim.Kd
open Go Go.Sim
theorem callOv {f:Nat} {o:List AV → Sg → Option (List AV × Sg)} {args r:List AV} {s s':Sg} {R:List AV → Sg → Prop} (h1:p.ov f=some o) (h2:o args s=some (r,s')) (h3:R r s'):HC p f args s R:=by
 refine ⟨r,s',?_,h3⟩
 rw [callL_eq,h1]
 exact h2
theorem cloneI_c (s:Sg) (l:List Int) (hl:l.length ≤ 2 ^ 40):HC p N72_ [ints l] s (fun r s'=>∃ o,r=[.slice o 1 (l.map I)] ∧ s'=s):=by
 cases l with
 | nil=>exact callOv (o:=cloneOv 1 8) rfl (r:=[.slice .full 1 []]) (s':=s) rfl ⟨_,rfl,rfl⟩
 | cons x l =>
   have h:cloneOv 1 8 [ints (x :: l)] s=some ([.slice .none 1 ((x :: l).map I)],s):=by
    show (if 1=1 ∧ ((l.map I).length + 1) * 8 ≤ 2 ^ 47 then some ([AV.slice .none 1 (I x :: l.map I)],s) else none)=_
    rw [if_pos ⟨rfl,by simp only [List.length_cons,List.length_map] at hl ⊢;omega⟩]
    rfl
   exact callOv (o:=cloneOv 1 8) rfl h ⟨_,rfl,rfl⟩
theorem cloneB_c (s:Sg) (l:List Bool) (hl:l.length ≤ 2 ^ 40):HC p N73_ [bools l] s (fun r s'=>∃ o,r=[.slice o 1 (l.map B)] ∧ s'=s):=by
 cases l with
 | nil=>exact callOv (o:=cloneOv 1 1) rfl (r:=[.slice .full 1 []]) (s':=s) rfl ⟨_,rfl,rfl⟩
 | cons x l =>
   have h:cloneOv 1 1 [bools (x :: l)] s=some ([.slice .none 1 ((x :: l).map B)],s):=by
    show (if 1=1 ∧ ((l.map B).length + 1) * 1 ≤ 2 ^ 47 then some ([AV.slice .none 1 (B x :: l.map B)],s) else none)=_
    rw [if_pos ⟨rfl,by simp only [List.length_cons,List.length_map] at hl ⊢;omega⟩]
    rfl
   exact callOv (o:=cloneOv 1 1) rfl h ⟨_,rfl,rfl⟩
theorem cpN_parts (a:Node):(cpN a).op=a.op ∧ (cpN a).n=a.n ∧ (cpN a).ty=a.ty ∧ (cpN a).args=(kidsA a).map cpN ∧ (cpN a).brs=(kidsB a).map cpB:=by
 rw [cpN_eq,kidsA,kidsB]
 split
 ·exact ⟨rfl,rfl,rfl,rfl,rfl⟩
 rw [cpNs_map,cpBs_map]
 exact ⟨rfl,rfl,rfl,rfl,rfl⟩
def CpC (b:Node):Prop:=∀ s:Sg,HC p N61_ [.agg b.cs] s (fun r s'=>r=[.agg (cpN b).cs] ∧ s'=s)
theorem cpd_l1 (a:Node) (hz:a.sz ≤ 2 ^ 40) (H:∀ b ∈ kidsA a,CpC b) (i:Nat) (hi:i ≤ (kidsA a).length) (o:Own) {n:Nat} {v:Nat → Bool} {D:List (Nat × List AV)} {S:Sg} {Q:Ex → Fr → Prop} (hc:CanM 0 o v n)
 (hX:∀ j n' v' o',Q (.exit 0) ⟨upd (upd (uv (uv (uv (uv (uv e0 19 (B false)) 18 (I j)) 17 (I ((kidsA a).map Node.enc).length)) 16 (SL 5 ((kidsA a).map Node.enc))) 4 (SL 7 ((kidsB a).map Br.enc))) 2 (some (.loc 2 0))) 1 (some (.loc 1 0)),upd (upd ((fun _=>none)) 2 (some ([I 0,I 0,I 0,.slice .full 5 [],.slice .full 7 []]))) 1 (some ([I a.op,I a.n,I a.ty,.slice o' 5 ((kidsA a).map (fun b:Node=>(cpN b).enc)),.slice .full 7 ([])])),n',v',D,S⟩):EX (callL p) (.loop F61_l1) ⟨upd (upd (uv (uv (uv (uv e0 18 (I i)) 17 (I ((kidsA a).map Node.enc).length)) 16 (SL 5 ((kidsA a).map Node.enc))) 4 (SL 7 ((kidsB a).map Br.enc))) 2 (some (.loc 2 0))) 1 (some (.loc 1 0)),upd (upd ((fun _=>none)) 2 (some ([I 0,I 0,I 0,.slice .full 5 [],.slice .full 7 []]))) 1 (some ([I a.op,I a.n,I a.ty,.slice o 5 (((kidsA a).take i).map (fun b:Node=>(cpN b).enc)),.slice .full 7 ([])])),n,v,D,S⟩ Q:=by
 refine eloop (er (qp J (qb ?_)))
 rintro (_ | _) h1
 ·refine qn (kq7 J) (kq2 J) (eseq (ecF J (eexit (sqx ?_))))
  have e:(kidsA a).take i=kidsA a:=List.take_of_length_le (by simp at h1;omega)
  rw [e]
  exact hX _ _ _ _
 refine qn (kq7 J) (kq2 J) (eseq (ecT J (eskip (sqn (eseq (eblock (er ?_)))))))
 have hlt:i < (kidsA a).length:=by simpa using h1
 have hzz:=kidsA_len a
 obtain ⟨b,hb⟩:=get_of_lt hlt
 refine hia (y:=.agg b.cs) rfl rfl (by omega) (by simp [hb,Node.enc_eq]) rfl (hlda rfl rfl (lc rfl (lc rfl (lc rfl (lc rfl (lc rfl (ln rfl)))))) (hal (dc (dc (dc (dc (dc (dc (dc (dc (dc dn rfl) rfl) rfl) rfl) rfl) rfl) rfl) rfl) rfl) (hstl rfl rfl rfl rfl (Nlb rfl) (lc rfl (lc rfl (lc rfl (lc rfl (lc rfl (ln rfl)))))) (qk (kc rfl (kc rfl (kc rfl (kc rfl (kc rfl (kc rfl (kc rfl kn))))))) (kc rfl (kc rfl (kc rfl kn))) (sqn (ereg (qp rfl (qp rfl (hlda rfl rfl (lc rfl (lc rfl (lc rfl (lc rfl (lc rfl (ln rfl)))))) (hcall rfl rfl rfl (H b (Lmg hb) _) ?_))))))))))
 rintro _ _ ⟨rfl,rfl⟩
 refine hbsl (q':=[(cpN b).enc]) rfl rfl (by rw [Node.enc_eq];rfl) (hapC (r:=((kidsA a).take (i + 1)).map (fun b:Node=>(cpN b).enc)) rfl rfl hc.can (by simp) (by simp;omega) (by simp [List.take_add_one,hb]) ?_)
 intro v1 hc1 hv1
 refine qp J (hstl J J J J (Nlb J) (lq5 J) (qk (kq6 J) (kq2 J) (bqn (sqn (ereg (hadd J J (i64w (by omega)) (qp J (qk (kq6 J) (kq2 J) ?_))))))))
 exact cpd_l1 a hz H (i + 1) (by omega) _ (CanM.new hc1 (Nat.zero_le _)) hX
termination_by (kidsA a).length - i
decreasing_by all_goals omega
theorem cpd_l2 (a:Node) (hz:a.sz ≤ 2 ^ 40) (H:∀ b ∈ kidsB a,CpC b.body) (o5:Own) (i:Nat) (hi:i ≤ (kidsB a).length) (o:Own) {n:Nat} {v:Nat → Bool} {D:List (Nat × List AV)} {S:Sg} {Q:Ex → Fr → Prop} (hc:CanM 0 o v n)
 (hX:∀ j n' v' o',Q (.exit 2) ⟨upd (upd (uv (uv (uv (uv e0 33 (B false)) 32 (I j)) 31 (I ((kidsB a).map Br.enc).length)) 30 (SL 7 ((kidsB a).map Br.enc))) 2 (some (.loc 2 0))) 1 (some (.loc 1 0)),upd (upd ((fun _=>none)) 2 (some ([I 0,I 0,I 0,.slice .full 5 [],.slice .full 7 []]))) 1 (some ([I a.op,I a.n,I a.ty,.slice o5 5 ((kidsA a).map (fun b:Node=>(cpN b).enc)),.slice o' 7 ((kidsB a).map (fun b:Br=>(cpB b).enc))])),n',v',D,S⟩):EX (callL p) (.loop F61_l2) ⟨upd (upd (uv (uv (uv e0 32 (I i)) 31 (I ((kidsB a).map Br.enc).length)) 30 (SL 7 ((kidsB a).map Br.enc))) 2 (some (.loc 2 0))) 1 (some (.loc 1 0)),upd (upd ((fun _=>none)) 2 (some ([I 0,I 0,I 0,.slice .full 5 [],.slice .full 7 []]))) 1 (some ([I a.op,I a.n,I a.ty,.slice o5 5 ((kidsA a).map (fun b:Node=>(cpN b).enc)),.slice o 7 (((kidsB a).take i).map (fun b:Br=>(cpB b).enc))])),n,v,D,S⟩ Q:=by
 refine eloop (er (qp J (qb ?_)))
 rintro (_ | _) h1
 ·refine qn (kq6 J) (kq2 J) (eseq (ecF J (eexit (sqx ?_))))
  have e:(kidsB a).take i=kidsB a:=List.take_of_length_le (by simp at h1;omega)
  rw [e]
  exact hX _ _ _ _
 refine qn (kq6 J) (kq2 J) (eseq (ecT J (eskip (sqn (eseq (eblock (er ?_)))))))
 have hlt:i < (kidsB a).length:=by simpa using h1
 have hbs:=kidsB_len a
 obtain ⟨b,hb⟩:=get_of_lt hlt
 have hbz:=Node.sz_br (kidsB_sub a b (Lmg hb))
 have hv1:=b.sz_vars
 have hv2:=b.sz_co
 refine hia (y:=.agg (ints b.vars :: bools b.co :: b.body.cs)) rfl rfl (by omega) (by simp [hb,Br.enc_eq]) rfl (hlda rfl rfl (lc rfl (lc rfl (lc rfl (lc rfl (lc rfl (lc rfl (lc rfl (ln rfl)))))))) (hal (dc (dc (dc (dc (dc (dc (dc (dc dn rfl) rfl) rfl) rfl) rfl) rfl) rfl) rfl) (hstl rfl rfl rfl rfl (Nlb rfl) (lc rfl (lc rfl (lc rfl (lc rfl (lc rfl (lc rfl (lc rfl (ln rfl)))))))) (qk (kc rfl (kc rfl (kc rfl (kc rfl (kc rfl (kc rfl kn)))))) (kc rfl (kc rfl (kc rfl kn))) (sqn (ereg (qp rfl (qp rfl (qp rfl (qp rfl (hcall rfl rfl rfl (cloneI_c _ b.vars (by omega)) ?_)))))))))))
 rintro _ _ ⟨o1,rfl,rfl⟩
 refine pq2 J (hcall J J J (cloneB_c _ b.co (by omega)) ?_)
 rintro _ _ ⟨o2,rfl,rfl⟩
 refine qp J (hlda J J (lq5 J) (hcall J J J (H b (Lmg hb) _) ?_))
 rintro _ _ ⟨rfl,rfl⟩
 refine hbuild rfl rfl (lc rfl (lc rfl (lc rfl (lc rfl (lc rfl (lc rfl (lc rfl (ln rfl)))))))) (hbsl (q':=[(cpB b).enc]) rfl rfl (by rw [Br.enc_eq,cpB_eq];rfl) (hapC (r:=((kidsB a).take (i + 1)).map (fun b:Br=>(cpB b).enc)) rfl rfl hc.can (by simp) (by simp;omega) (by simp [List.take_add_one,hb]) ?_))
 intro v3 hc1 hv3
 refine qp J (hstl J J J J (Nlb J) (lq5 J) (qk (kq5 J) (kq2 J) (bqn (sqn (ereg (hadd J J (i64w (by omega)) (qp J (qk (kq5 J) (kq2 J) ?_))))))))
 exact cpd_l2 a hz H o5 (i + 1) (by omega) _ (CanM.new hc1 (Nat.zero_le _)) hX
termination_by (kidsB a).length - i
decreasing_by all_goals omega
theorem cpd_c0 (a:Node) (hz:a.sz ≤ 2 ^ 40) (H1:∀ b ∈ kidsA a,CpC b) (H2:∀ b ∈ kidsB a,CpC b.body) (s:Sg):HC p N61_ [.agg a.cs] s (fun r s'=>r=[.agg (cpN a).cs] ∧ s'=s):=by
 refine hcf J f61_ J ?_
 simp only [chainOf]
 refine er (hbox (dc dn J) J (lq5 J) (hal (dq2 J) (qn (kq2 J) (kq2 J) (er (hlda J J (lq5 J) (hcall J J J (children_c _ _) ?_))))))
 rintro _ _ ⟨rfl,hq⟩
 obtain rfl:=hq.symm
 refine pq5 J (qn (kq4 J) (kq2 J) (er (qp J (hstl J J J J (Nlb J) (lq5 J) (qp J (hstl J J J J (Nlb J) (lq5 J) (qn (kq4 J) (kq2 J) (eseq (er (pq3 J (qn (kq6 J) (kq2 J) (eblock ?_))))))))))))
 refine cpd_l1 a hz H1 0 (by omega) .full (.inl J) ?_
 intro j n1 v1 o1
 refine bqx (sqn (eseq (er (pq3 J (qn (kq5 J) (kq2 J) (eblock (cpd_l2 a hz H2 o1 0 (by omega) .full (.inl J) ?_)))))))
 intro j2 n2 v2 o2
 refine bqx (sqn (er (hlda J J (lq5 J) (hstl J J J J (Nlb J) (lq5 J) (qn (kq1 J) (kq1 J) (eret (fqr J ?_)))))))
 refine ⟨?_,J⟩
 obtain ⟨e1,e2,e3,e4,e5⟩:=cpN_parts a
 simp only [Node.cs,e1,e2,e3,e4,e5,List.map_map]
 rfl
theorem Copied_c (a:Node) (hz:a.sz ≤ 2 ^ 40):CpC a:=by
 induction a using Node.ind with
 | h a ih1 ih2 =>
   exact cpd_c0 a hz (fun b hb=>ih1 b (kidsA_sub a b hb) (by have:=Node.sz_arg (kidsA_sub a b hb);omega)) (fun b hb=>ih2 b (kidsB_sub a b hb) (by have:=Node.sz_br (kidsB_sub a b hb);have:=b.sz_body;omega))
structure Ch (X:Nat → Prop) (s s':Sg):Prop where
 c:Chg X s s'
 mn:s.mn ≤ s'.mn
 mu:∀ g,g < s.mn → s'.mu g=s.mu g
theorem Ch.refl {X:Nat → Prop} (s:Sg):Ch X s s:=⟨Chg.refl s,Nat.le_refl _,fun _ _=>rfl⟩
theorem Ch.trans {X:Nat → Prop} {a b c:Sg} (h:Ch X a b) (k:Ch X b c):Ch X a c:=⟨h.c.trans k.c,Nat.le_trans h.mn k.mn,fun g hg=>(k.mu g (Nat.lt_of_lt_of_le hg h.mn)).trans (h.mu g hg)⟩
theorem Ch.mono {X Y:Nat → Prop} {s s':Sg} (h:Ch X s s') (k:∀ i,i < s.nx → X i → Y i):Ch Y s s':=⟨h.c.mono k,h.mn,h.mu⟩
theorem MX.ch {X:Nat → Prop} {s s':Sg} (h:W.MX [] s s'):Ch X s s' :=
 ⟨⟨by rw [h.nx];exact Nat.le_refl _,fun i _ _=>by rw [h.ob],by rw [h.gn];exact Nat.le_refl _,fun g _=>by rw [h.gl],h.Q⟩,h.mn,fun g hg=>h.mu g hg (by simp)⟩
def ndM (X:Int → Option Node):Value → Option AV
 | .int .i64 n=>(X n).map fun a=>.agg a.cs
 | _=>none
theorem ndM_put (M:NM) (w:Bool) (v:Int) (a:Node):mset (ndM (M w)) (.int .i64 v) (some (.agg a.cs))=ndM (putG M w v (some a) w):=by
 funext k
 unfold mset
 by_cases h:k=.int .i64 v
 ·subst h;simp [ndM,putG]
 rw [if_neg h]
 cases k <;> try rfl
 rename_i kd n
 cases kd <;> try rfl
 have hne:¬ n=v:=fun e=>h (by rw [e])
 simp [ndM,putG,hne]
theorem ndM_del (M:NM) (w:Bool) (v:Int):mset (ndM (M w)) (.int .i64 v) none=ndM (putG M w v none w):=by
 funext k
 unfold mset
 by_cases h:k=.int .i64 v
 ·subst h;simp [ndM,putG]
 rw [if_neg h]
 cases k <;> try rfl
 rename_i kd n
 cases kd <;> try rfl
 have hne:¬ n=v:=fun e=>h (by rw [e])
 simp [ndM,putG,hne]
theorem putG_ne {α:Type} (M:Bool → Int → α) (w:Bool) (v:Int) (x:α) {w':Bool} (h:w' ≠ w):putG M w v x w'=M w':=by
 funext u
 simp [putG,h]
structure RI where
 k:Nat
 t0:Nat
 t1:Nat
 i0:Nat
 i1:Nat
def RI.t (j:RI) (w:Bool):Nat:=if w then j.t1 else j.t0
def RI.i (j:RI) (w:Bool):Nat:=if w then j.i1 else j.i0
def RI.row (j:RI) (p:Bool → Int) (l:Int):List AV:=[.map j.t0,.map j.t1,I (p false),I (p true),I l,.map j.i0,.map j.i1]
structure RN (j:RI) (T:Bool → Int → Bool) (p:Bool → Int) (l:Int) (M:NM) (S:Sg):Prop where
 hk:S.ob j.k=some (.row (j.row p l))
 ht:∀ w,S.ob (j.t w)=some (.map (.int .i64) (setM (T w)))
 hm:∀ w,S.ob (j.i w)=some (.map (.int .i64) (ndM (M w)))
 kl:j.k < S.nx
 tl:∀ w,j.t w < S.nx
 il:∀ w,j.i w < S.nx
 kt:∀ w,j.k ≠ j.t w
 ki:∀ w,j.k ≠ j.i w
 ti:∀ w w',j.t w ≠ j.i w'
 ne:j.i0 ≠ j.i1
def RI.X (j:RI) (i:Nat):Prop:=i=j.k ∨ i=j.i0 ∨ i=j.i1
theorem RI.iX (j:RI) (w:Bool):j.X (j.i w):=by
 cases w
 ·exact .inr (.inl rfl)
 exact .inr (.inr rfl)
theorem RI.ine {j:RI} (h:j.i0 ≠ j.i1) {w w':Bool} (hw:w' ≠ w):j.i w' ≠ j.i w:=by
 cases w <;> cases w' <;> simp_all [RI.i]
 exact Ne.symm h
theorem RN.keep {j:RI} {T:Bool → Int → Bool} {p:Bool → Int} {l:Int} {M:NM} {S S':Sg} {Y:Nat → Prop} (h:RN j T p l M S) (k:Chg Y S S') (hk:¬ Y j.k) (ht:∀ w,¬ Y (j.t w)) (hi:∀ w,¬ Y (j.i w)):RN j T p l M S' :=
 ⟨(k.ob _ h.kl hk).trans h.hk,fun w=>(k.ob _ (h.tl w) (ht w)).trans (h.ht w),fun w=>(k.ob _ (h.il w) (hi w)).trans (h.hm w),Nat.lt_of_lt_of_le h.kl k.nx,fun w=>Nat.lt_of_lt_of_le (h.tl w) k.nx,fun w=>Nat.lt_of_lt_of_le (h.il w) k.nx,h.kt,h.ki,h.ti,h.ne⟩
theorem RN.row {j:RI} {T:Bool → Int → Bool} {p p':Bool → Int} {l l':Int} {M:NM} {S:Sg} (h:RN j T p l M S):RN j T p' l' M (S.set j.k (.row (j.row p' l'))) :=
 ⟨set_ob,fun w=>(set_ne (Ne.symm (h.kt w))).trans (h.ht w),fun w=>(set_ne (Ne.symm (h.ki w))).trans (h.hm w),h.kl,h.tl,h.il,h.kt,h.ki,h.ti,h.ne⟩
theorem RN.map {j:RI} {T:Bool → Int → Bool} {p:Bool → Int} {l:Int} {M:NM} {S:Sg} (h:RN j T p l M S) (w:Bool) (v:Int) (x:Option Node):RN j T p l (putG M w v x) (S.set (j.i w) (.map (.int .i64) (ndM (putG M w v x w)))):=by
 refine ⟨(set_ne (h.ki w)).trans h.hk,fun w'=>(set_ne (h.ti w' w)).trans (h.ht w'),fun w'=>?_,h.kl,h.tl,h.il,h.kt,h.ki,h.ti,h.ne⟩
 by_cases e:w'=w
 ·subst e
  exact set_ob
 rw [set_ne (RI.ine h.ne e),putG_ne _ _ _ _ e]
 exact h.hm w'
theorem Ch.set {X:Nat → Prop} {s s':Sg} (h:Ch X s s') {i:Nat} (hX:i < s.nx → X i) (o:AObj):Ch X s (s'.set i o):=⟨h.c.set hX,h.mn,h.mu⟩
theorem setM_val (X:Int → Bool) (v:Int):(setM X (.int .i64 v)).getD (B false)=B (X v):=by
 simp only [setM]
 cases X v <;> rfl
theorem fresh_l (j:RI) (T:Bool → Int → Bool) (L:Bool → List Int) (hL:∀ w x,T w x=true → x ∈ L w) (w:Bool) (c:Nat) (hc:∀ w,(L w).length + c ≤ 2 ^ 40) (l:Int) (M:NM) (p0:Bool → Int) (pp:Bool → Int) {n:Nat} {v:Nat → Bool} {D:List (Nat × List AV)} {S:Sg} {Q:Ex → Fr → Prop} (hR:RN j T pp l M S) (hP:Pot L pp c)
 (hb:∀ y,p0 w ≤ y → y < pp w → T w y=true) (h0:p0 w ≤ pp w) (hq:∀ w',w' ≠ w → pp w'=p0 w')
 (hX:∀ pp' S',RN j T pp' l M S' → Pot L pp' c → Ch (fun i=>i=j.k) S S' → (∀ y,p0 w ≤ y → y < pp' w → T w y=true) → p0 w ≤ pp' w → T w (pp' w)=false → (∀ w',w' ≠ w → pp' w'=p0 w') → Q (.exit 0) ⟨uv (uv (uv e0 17 (B false)) 1 (I (sideOf w))) 0 (.ptr j.k 0),(fun _=>none),n,v,D,S'⟩):EX (callL p) (.loop F74_l1) ⟨uv (uv e0 1 (I (sideOf w))) 0 (.ptr j.k 0),(fun _=>none),n,v,D,S⟩ Q:=by
 refine eloop (eseq (er (pq4 J ?_)))
 refine qp (t:=.val (.ptr j.k (0 + 0 + (sideOf w).toNat * 1))) (by cases w <;> rfl) ?_
 refine hldo rfl hR.hk (y:=.map (j.t w)) (by cases w <;> rfl) ?_
 refine pq4 J ?_
 refine qp (t:=.val (.ptr j.k (0 + 2 + (sideOf w).toNat * 1))) (by cases w <;> rfl) ?_
 refine hldo rfl hR.hk (y:=I (pp w)) (by cases w <;> rfl) ?_
 refine hlk (id:=j.t w) (m:=setM (T w)) rfl rfl rfl (hR.ht w) ?_
 rw [setM_val]
 refine qb ?_
 rintro (_ | _) h1
 ·refine qn (kq3 J) kn (ecF J (eexit (sqx ?_)))
  exact hX pp S hR hP (Ch.refl S) hb h0 (by simpa using h1) hq
 refine qn (kq3 J) kn (ecT J (eskip (sqn (eblock (ereg (pq4 J ?_))))))
 refine qp (t:=.val (.ptr j.k (0 + 2 + (sideOf w).toNat * 1))) (by cases w <;> rfl) ?_
 refine hldo rfl hR.hk (y:=I (pp w)) (by cases w <;> rfl) ?_
 obtain ⟨kk0,kk1⟩:=hP w
 have kk2:=below_le (L w) (pp w)
 have kk3:=hc w
 refine hadd (r:=pp w + 1) rfl rfl (i64w (by omega)) (qp rfl (qp rfl ?_))
 refine qp (t:=.val (.ptr j.k (0 + 2 + (sideOf w).toNat * 1))) (by cases w <;> rfl) ?_
 refine hsto (cs':=j.row (putP pp w (pp w + 1)) l) rfl rfl hR.hk rfl (by cases w <;> exact Nlb rfl) (by simp) (by cases w <;> simp [RI.row,putP,wr,sideOf,AV.cells,I] <;> rfl) ?_
 refine qk (kq2 J) kn (bqn ?_)
 have ht:T w (pp w)=true:=by simpa using h1
 obtain ⟨k0,k1⟩:=hP w
 have k2:=below_step (L w) (hL w (pp w) ht)
 have k3:=below_le (L w) (pp w + 1)
 have k4:=hc w
 refine fresh_l j T L hL w c hc l M p0 (putP pp w (pp w + 1)) hR.row (fun w'=>?_) (fun y a b=>?_) ?_ (fun w' hw=>?_) fun pp' S' a1 a2 a3 a4 a5 a6 a7=>hX pp' S' a1 a2 ((Ch.set (X:=fun i=>i=j.k) (Ch.refl S) (fun _=>rfl) _).trans a3) a4 a5 a6 a7
 ·by_cases e:w'=w
  ·subst e;simp only [putP,if_true];omega
  simp only [putP,if_neg e];exact hP w'
 ·simp only [putP,if_true] at b
  by_cases e:y=pp w
  ·rw [e];exact ht
  exact hb y a (by omega)
 ·simp only [putP,if_true];omega
 simp only [putP,if_neg hw];exact hq w' hw
termination_by ((L w).length + c + 1 - (pp w)).toNat
decreasing_by all_goals (first | omega | (simp only [putP,if_true];omega))
theorem fresh_c (s:Sg) (j:RI) (T:Bool → Int → Bool) (L:Bool → List Int) (hL:∀ w x,T w x=true → x ∈ L w) (w:Bool) (c:Nat) (hc:∀ w,(L w).length + c ≤ 2 ^ 40) (l:Int) (M:NM) (p0:Bool → Int) (hR:RN j T p0 l M s) (hP:Pot L p0 c):HC p N74_ [.ptr j.k 0,I (sideOf w)] s (fun r s'=>∃ x q,r=[I x] ∧ FrS T p0 w x q ∧ RN j T q l M s' ∧ Ch (fun i=>i=j.k) s s'):=by
 refine hcf J f74_ J ?_
 simp only [chainOf]
 refine er (qp J (qn (kq2 J) kn (eseq (eblock (fresh_l j T L hL w c hc l M p0 p0 hR hP (fun y a b=>by omega) (Int.le_refl _) (fun _ _=>J) ?_)))))
 intro pp S1 hR hP k1 b1 b2 b3 b4
 obtain ⟨kk0,kk1⟩:=hP w
 have kk2:=below_le (L w) (pp w)
 have kk3:=hc w
 refine bqx (sqn (er (pq4 J ?_)))
 refine qp (t:=.val (.ptr j.k (0 + 2 + (sideOf w).toNat * 1))) (by cases w <;> rfl) ?_
 refine hldo rfl hR.hk (y:=I (pp w)) (by cases w <;> rfl) ?_
 refine hadd (r:=pp w + 1) rfl rfl (i64w (by omega)) (qp rfl (qp rfl ?_))
 refine qp (t:=.val (.ptr j.k (0 + 2 + (sideOf w).toNat * 1))) (by cases w <;> rfl) ?_
 refine hsto (cs':=j.row (putP pp w (pp w + 1)) l) rfl rfl hR.hk rfl (by cases w <;> exact Nlb rfl) (by simp) (by cases w <;> simp [RI.row,putP,wr,sideOf,AV.cells,I] <;> rfl) ?_
 have hR2:=hR.row (p':=putP pp w (pp w + 1)) (l':=l)
 refine qn (kq2 J) kn (er (pq4 J ?_))
 refine qp (t:=.val (.ptr j.k (0 + 2 + (sideOf w).toNat * 1))) (by cases w <;> rfl) ?_
 refine hldo rfl hR2.hk (y:=I (pp w + 1)) (by cases w <;> simp [RI.row,putP] <;> rfl) ?_
 refine hsub (r:=pp w) rfl rfl ((i64w (by omega)).trans (by omega)) (qp rfl (qk (kc rfl kn) kn (sqn (eret (fqr rfl ?_)))))
 refine ⟨pp w,_,J,⟨b2,b3,b1,?_⟩,hR2,k1.set (fun _=>J) _⟩
 funext w'
 by_cases e:w'=w
 ·subst e;simp [putP]
 simp only [putP,if_neg e];exact b4 w' e
end Go.Sim.Kd
namespace Go.Sim.Kd
open Go Go.Sim
section
variable {c:Caller} {E:Nat → Option TV} {L:Nat → Option (List AV)} {n:Nat} {v:Nat → Bool} {D:List (Nat × List AV)} {S:Sg} {l:List AIns} {Q:Fr → Prop}
theorem hapR {d sz by_ g0:Nat} {s x:AO} {o o':Own} {xs ys r:List AV} (h1:evV E s=some (.slice o sz xs)) (h2:evV E x=some (.slice o' sz ys)) (hc:CanG g0 o S) (hne:ys ≠ []) (hlen:(xs.length + ys.length) * by_ ≤ 2 ^ 47) (hr:xs ++ ys=r)
 (k:∀ v' gl',v' n=true → (∀ j,j ≠ n → v' j=v j) → (∀ g,g < g0 → gl' g=S.gl g) → HL c l ⟨upd E d (some (.val (.slice (.tip n) sz r))),L,n + 1,v',D,{ S with gl:=gl' }⟩ Q):HL c (⟨some d,none,.app sz by_ s x⟩ :: l) ⟨E,L,n,v,D,S⟩ Q:=by
 rcases hc with rfl | ⟨g,rfl,hg,_,hg0⟩
 ·subst hr
  exact hapF h1 h2 hne hlen fun v' a b=>k v' S.gl a b fun _ _=>rfl
 subst hr
 cases ys with
 | nil=>exact absurd rfl hne
 | cons y ys =>
   refine hop ?_ (k (fun j=>if j=n then true else v j) (fun j=>if j=g then false else S.gl j) (by simp) (fun j hj=>by simp [hj]) (fun j hj=>by rw [if_neg (by omega)]))
   simp only [ins,run1,aop,h1,h2,Obs,sliceOf,if_true,appOf,if_pos hlen,mayApp,hg]
   rfl
theorem hstR {id off t sz:Nat} {a x:AO} {xs cs cs':List AV} (h1:evV E x=some (.slice (.tip t) sz xs)) (h2:ev E a=some (.val (.ptr id off))) (h3:S.ob id=some (.row cs)) (h4:off + 1 ≤ cs.length) (ht:v t=true) (h6:wr cs off [.slice (.gt S.gn) sz xs]=cs')
 (k:∀ v' gl',(∀ j,j ≠ t → v' j=v j) → gl' S.gn=true → (∀ g,g < S.gn → gl' g=S.gl g) → HL c l ⟨E,L,n,v',D,{ S with gl:=gl',gn:=S.gn + 1,ob:=upd S.ob id (some (.row cs')) }⟩ Q):HL c (⟨none,none,.st true 1 a x⟩ :: l) ⟨E,L,n,v,D,S⟩ Q:=by
 subst h6
 refine hop ?_ (k (fun j=>if j=t then false else v j) (fun j=>if j=S.gn then true else S.gl j) (fun j hj=>by simp [hj]) (by simp) (fun g hg=>by rw [if_neg (by omega)]))
 simp only [ins,run1,aop,h1,h2,Obs,stAt,if_true,h3,stv,ht,AV.cells,List.length_cons,List.length_nil,Nat.zero_add,if_pos h4]
 rfl
end
abbrev OldN:=Bool × Int × Option Node
def z0:Node:=.mk 0 0 0 [] []
def encR (q:OldN):AV:=.agg (I (sideOf q.1) :: I q.2.1 :: ((q.2.2.getD z0).cs ++ [B q.2.2.isSome]))
def undoG (M:NM) (l:List OldN):NM:=l.foldr (fun q Y=>putG Y q.1 q.2.1 q.2.2) M
theorem putG_back {α:Type} (M:Bool → Int → α) (w:Bool) (v:Int) (x:α):putG (putG M w v x) w v (M w v)=M:=by
 funext w' v'
 unfold putG
 by_cases h:w'=w ∧ v'=v
 ·obtain ⟨rfl,rfl⟩:=h
  simp
 simp [h]
theorem undo_snoc (M:NM) (ad:List OldN) (w:Bool) (v:Int) (x:Option Node):undoG (putG M w v x) (ad ++ [(w,v,M w v)])=undoG M ad:=by
 simp only [undoG,List.foldr_append,List.foldr_cons,List.foldr_nil,putG_back]
theorem old_cells (X:Int → Option Node) (v:Int):∃ a0 a1 a2 a3 a4,((ndM X) (.int .i64 v)).getD (.agg [I 0,I 0,I 0,.slice .full 5 [],.slice .full 7 []])=.agg [a0,a1,a2,a3,a4] ∧ AV.ers [a0,a1,a2,a3,a4]=((X v).getD z0).cs:=by
 simp only [ndM]
 cases X v with
 | none=>exact ⟨_,_,_,_,_,rfl,rfl⟩
 | some a=>exact ⟨_,_,_,_,_,rfl,rfl⟩
theorem ndM_some (X:Int → Option Node) (v:Int):((ndM X) (.int .i64 v)).isSome=(X v).isSome:=by
 simp only [ndM]
 cases X v <;> rfl
theorem enc_old {a0 a1 a2 a3 a4:AV} {w:Bool} {v:Int} {o:Option Node} (h:AV.ers [a0,a1,a2,a3,a4]=(o.getD z0).cs):AV.ers [.agg [I (sideOf w),I v,a0,a1,a2,a3,a4,B o.isSome]]=[encR (w,v,o)]:=by
 have e:AV.ers [a0,a1,a2,a3,a4,B o.isSome]=(o.getD z0).cs ++ [B o.isSome]:=by
  rw [← h]
  simp [AV.ers,AV.er]
 simp only [AV.ers,AV.er] at e ⊢
 rw [encR,← e]
theorem Und_snoc {T:Bool → Int → Bool} {M':NM} {r q:Bool → Int} {v x:Int} {w:Bool}:∀ {vs:List Int} {cs:List Bool} {names:List Int} {M:NM} {p:Bool → Int},Und T M p vs cs names M' r → coAt cs vs.length=w → FrS T r w x q → Und T M p (vs ++ [v]) cs (names ++ [x]) (putG M' w v (some (varN w x))) q
 | [],cs,names,M,p,h,hw,f=>by
   rw [Und] at h
   obtain ⟨rfl,rfl,rfl⟩:=h
   have e:cs.headD false=w:=by rw [← hw,← coAt_drop];rfl
   rw [List.nil_append,Und,e]
   exact ⟨x,q,[],f,rfl,by rw [Und];exact ⟨rfl,rfl,rfl⟩⟩
 | u :: vs,cs,names,M,p,h,hw,f=>by
   rw [Und] at h
   obtain ⟨y,p1,names',f1,rfl,h1⟩:=h
   rw [List.cons_append,Und]
   refine ⟨y,p1,names' ++ [x],f1,J,Und_snoc h1 ?_ f⟩
   rw [← hw,← coAt_drop,← coAt_drop]
   cases cs with
   | nil=>simp
   | cons a cs=>rfl
structure UB (j:RI) (b3 b8:Nat) (ad:List OldN) (S:Sg):Prop where
 h3:S.ob b3=some (.row [.ptr j.k 0])
 h8:∃ o,S.ob b8=some (.row [.slice o 8 (ad.map encR)])
 l3:b3 < S.nx
 l8:b8 < S.nx
 d3:∀ w,b3 ≠ j.i w
 d8:∀ w,b8 ≠ j.i w
theorem UB.keep {j:RI} {b3 b8:Nat} {ad:List OldN} {S S':Sg} {Y:Nat → Prop} (h:UB j b3 b8 ad S) (k:Chg Y S S') (y3:¬ Y b3) (y8:¬ Y b8):UB j b3 b8 ad S':=by
 obtain ⟨o,h8⟩:=h.h8
 exact ⟨(k.ob _ h.l3 y3).trans h.h3,⟨o,(k.ob _ h.l8 y8).trans h8⟩,Nat.lt_of_lt_of_le h.l3 k.nx,Nat.lt_of_lt_of_le h.l8 k.nx,h.d3,h.d8⟩
structure UL (s0:Sg) (j:RI) (T:Bool → Int → Bool) (L:Bool → List Int) (l:Int) (c:Nat) (M0:NM) (p0:Bool → Int) (vs:List Int) (cs:List Bool) (i:Nat) (names:List Int) (M:NM) (pp:Bool → Int) (ad:List OldN) (S:Sg):Prop where
 un:Und T M0 p0 (vs.take i) cs names M pp
 rn:RN j T pp l M S
 po:Pot L pp (c + i)
 ud:undoG M ad=M0
 nl:names.length=i
 al:ad.length=i
 h3:S.ob s0.nx=some (.row [.ptr j.k 0])
 h8:∃ o,S.ob (s0.nx + 1)=some (.row [.slice o 8 (ad.map encR)]) ∧ CanG s0.gn o S
 ch:Ch j.X s0 S
 nx:s0.nx + 2 ≤ S.nx
 kl:j.k < s0.nx
 tl:∀ w,j.t w < s0.nx
 il:∀ w,j.i w < s0.nx
theorem UL.step {s0:Sg} {j:RI} {T:Bool → Int → Bool} {L:Bool → List Int} {l:Int} {c:Nat} {M0:NM} {p0:Bool → Int} {vs:List Int} {cs:List Bool} {i:Nat} {names:List Int} {M:NM} {pp:Bool → Int} {ad:List OldN} {S S1:Sg} (h:UL s0 j T L l c M0 p0 vs cs i names M pp ad S) {a:Int} {w:Bool} (ha:vs[i]?=some a) (hw:cs[i]?=some w)
 {x:Int} {q:Bool → Int} (f:FrS T pp w x q) (R1:RN j T q l M S1) (k1:Ch (fun i=>i=j.k) S S1) (hL:∀ w x,T w x=true → x ∈ L w) (hc:∀ w,(L w).length + c + vs.length ≤ 2 ^ 40) (e3:S1.ob s0.nx=some (.row [.ptr j.k 0])) (gl2:Nat → Bool) (hg2:gl2 S1.gn=true) (hg3:∀ g,g < s0.gn → gl2 g=S1.gl g) :
 UL s0 j T L l c M0 p0 vs cs (i + 1) (names ++ [x]) (putG M w a (some (varN w x))) q (ad ++ [(w,a,M w a)])
  (Sg.set { S1 with gl:=gl2,gn:=S1.gn + 1,ob:=upd S1.ob (s0.nx + 1) (some (.row [.slice (.gt S1.gn) 8 ((ad ++ [(w,a,M w a)]).map encR)])) } (j.i w) (.map (.int .i64) (ndM (putG M w a (some (varN w x)) w)))):=by
 have hi:i < vs.length:=by
  rcases Nat.lt_or_ge i vs.length with h' | h'
  ·exact h'
  rw [List.getElem?_eq_none h'] at ha;cases ha
 have hnx:=h.nx
 have hkl:=h.kl
 have htl:=h.tl
 have hil:=h.il
 have k1nx:=k1.c.nx
 have R2:RN j T q l M { S1 with gl:=gl2,gn:=S1.gn + 1,ob:=upd S1.ob (s0.nx + 1) (some (.row [.slice (.gt S1.gn) 8 ((ad ++ [(w,a,M w a)]).map encR)])) } :=
  ⟨(upd_ne _ _ (show j.k ≠ s0.nx + 1 by omega)).trans R1.hk,fun w=>(upd_ne _ _ (show j.t w ≠ s0.nx + 1 by have:=htl w;omega)).trans (R1.ht w),fun w=>(upd_ne _ _ (show j.i w ≠ s0.nx + 1 by have:=hil w;omega)).trans (R1.hm w),R1.kl,R1.tl,R1.il,R1.kt,R1.ki,R1.ti,R1.ne⟩
 refine ⟨?_,R2.map w a _,?_,by rw [undo_snoc];exact h.ud,by simp [h.nl],by simp [h.al],?_,⟨.gt S1.gn,?_,.inr ⟨_,rfl,hg2,Nat.lt_succ_self _,Nat.le_trans h.ch.c.gn k1.c.gn⟩⟩,?_,by show s0.nx + 2 ≤ S1.nx;omega,hkl,htl,hil⟩
 ·rw [List.take_add_one,ha]
  refine Und_snoc h.un ?_ f
  rw [List.length_take,Nat.min_eq_left (by omega),coAt,hw]
  rfl
 ·have:=(h.po.step hL f).2.2.1
  rw [show c + (i + 1)=c + i + 1 from by omega]
  exact this
 ·rw [set_ne (show s0.nx ≠ j.i w by have:=hil w;omega)]
  exact (upd_ne _ _ (by omega)).trans e3
 ·rw [set_ne (show s0.nx + 1 ≠ j.i w by have:=hil w;omega)]
  exact upd_same _ _ _
 have t1:Ch j.X s0 S1:=h.ch.trans (k1.mono fun i _ e=>.inl e)
 have t2:Ch j.X s0 { S1 with gl:=gl2,gn:=S1.gn + 1,ob:=upd S1.ob (s0.nx + 1) (some (.row [.slice (.gt S1.gn) 8 ((ad ++ [(w,a,M w a)]).map encR)])) }:=⟨⟨t1.c.nx,fun i hi hx=>(upd_ne _ _ (by omega)).trans (t1.c.ob i hi hx),Nat.le_succ_of_le t1.c.gn,fun g hg=>(hg3 g hg).trans (t1.c.gl g hg),t1.c.Q⟩,t1.mn,t1.mu⟩
 exact t2.set (fun _=>j.iX w) _
theorem ul_init {j:RI} {T:Bool → Int → Bool} {L:Bool → List Int} {l:Int} {c:Nat} {M:NM} {pp:Bool → Int} (s:Sg) (vs:List Int) (cs:List Bool) (hR:RN j T pp l M s) (hP:Pot L pp c):UL s j T L l c M pp vs cs 0 [] M pp [] ((s.new (.row [.ptr j.k 0])).new (.row [.slice .full 8 []])):=by
 have hl:∀ i,i < s.nx → ((s.new (.row [.ptr j.k 0])).new (.row [.slice .full 8 []])).ob i=s.ob i:=fun i hi=>by rw [new_lt (by show i < s.nx + 1;omega),new_lt hi]
 have hch:Chg j.X s ((s.new (.row [.ptr j.k 0])).new (.row [.slice .full 8 []])):=⟨by show s.nx ≤ s.nx + 2;omega,fun i hi _=>hl i hi,Nat.le_refl _,fun _ _=>rfl,rfl⟩
 have hch0:Chg (fun _=>False) s ((s.new (.row [.ptr j.k 0])).new (.row [.slice .full 8 []])):=⟨by show s.nx ≤ s.nx + 2;omega,fun i hi _=>hl i hi,Nat.le_refl _,fun _ _=>rfl,rfl⟩
 refine ⟨by rw [List.take_zero,Und];exact ⟨rfl,rfl,rfl⟩,hR.keep hch0 id (fun _=>id) (fun _=>id),hP,rfl,rfl,rfl,?_,⟨.full,?_,.inl rfl⟩,⟨hch,Nat.le_refl _,fun _ _=>rfl⟩,Nat.le_refl _,hR.kl,hR.tl,hR.il⟩
 ·rw [new_lt (by show s.nx < s.nx + 1;omega)]
  exact new_ob
 exact new_ob
theorem und_l (s0:Sg) (j:RI) (T:Bool → Int → Bool) (L:Bool → List Int) (hL:∀ w x,T w x=true → x ∈ L w) (l:Int) (c:Nat) (M0:NM) (p0:Bool → Int) (vs:List Int) (cs:List Bool) (hlen:vs.length ≤ cs.length) (hc:∀ w,(L w).length + c + vs.length ≤ 2 ^ 40) (hs:vs.length ≤ 2 ^ 40) (fnm bx:Nat) (brow:List AV) (hbx:s0.ob bx=some (.row brow)) (hbl:bx < s0.nx) (hbX:¬ j.X bx)
 (hf:∀ (i:Nat) b S',cs[i]?=some b → S'.ob bx=some (.row brow) → HC p fnm [I i,.ptr bx 0] S' (fun r s'=>r=[B b] ∧ s'=S')) (i:Nat) (hi:i ≤ vs.length) (names:List Int) (M:NM) (pp:Bool → Int) (ad:List OldN) (o9:Own) {n:Nat} {v:Nat → Bool} {D:List (Nat × List AV)} {S:Sg} {Q:Ex → Fr → Prop} (hU:UL s0 j T L l c M0 p0 vs cs i names M pp ad S) (h9:CanM 0 o9 v n)
 (hX:∀ k n' v' S' names' M' p' ad' o',UL s0 j T L l c M0 p0 vs cs vs.length names' M' p' ad' S' → Q (.exit 0) ⟨uv (uv (uv (uv (uv (uv (uv (uv e0 20 (B false)) 19 (I k)) 18 (I (vs.map I).length)) 17 (ints vs)) 9 (.slice o' 1 (names'.map I))) 8 (.ptr (s0.nx + 1) 0)) 3 (.ptr s0.nx 0)) 2 (.fn fnm [] [.ptr bx 0]),(fun _=>none),n',v',D,S'⟩):EX (callL p) (.loop F64_l1) ⟨uv (uv (uv (uv (uv (uv (uv e0 19 (I i)) 18 (I (vs.map I).length)) 17 (ints vs)) 9 (.slice o9 1 (names.map I))) 8 (.ptr (s0.nx + 1) 0)) 3 (.ptr s0.nx 0)) 2 (.fn fnm [] [.ptr bx 0]),(fun _=>none),n,v,D,S⟩ Q:=by
 refine eloop (er (qp J (qb ?_)))
 rintro (_ | _) h1
 refine qn (kq8 J) kn (eseq (ecF J (eexit (sqx ?_))))
 obtain rfl:i=vs.length:=by simp at h1;omega
 exact hX _ _ _ _ _ _ _ _ _ hU
 refine qn (kq8 J) kn (eseq (ecT J (eskip (sqn (eseq (eblock (er (qp J ?_))))))))
 have hlt:i < vs.length:=by simpa using h1
 obtain ⟨a,ha⟩:=get_of_lt hlt
 obtain ⟨w,hw⟩:=get_of_lt (l:=cs) (i:=i) (by omega)
 refine hia (y:=I a) rfl rfl (by omega) (by simp [ha]) rfl (qp rfl (qp rfl (qp rfl (qk (kc rfl (kc rfl (kc rfl (kc rfl (kc rfl (kc rfl (kc rfl (kc rfl (kc rfl kn))))))))) kn (sqn (eseq (ereg (qp rfl (qp rfl (hcall rfl rfl rfl (hf i w _ hw ((hU.ch.c.ob bx hbl hbX).trans hbx)) ?_))))))))))
 rintro _ _ ⟨rfl,rfl⟩
 refine hcall J J J (cside_c _ w) ?_
 rintro _ _ ⟨rfl,rfl⟩
 refine qp J (qn (kq9 J) kn (er (hldo J hU.h3 J ?_)))
 refine qp rfl (hcall rfl rfl rfl (fresh_c _ j T L hL w (c + i) (fun w=>by have:=hc w;omega) l M pp hU.rn hU.po) ?_)
 rintro _ S1 ⟨x,q,rfl,f1,R1,k1⟩
 have hk1:=hU.kl
 have e3:S1.ob s0.nx=some (.row [.ptr j.k 0]):=(k1.c.ob _ (by have:=hU.nx;omega) (by omega)).trans hU.h3
 obtain ⟨o8,e8,c8⟩:=hU.h8
 have e8:=(k1.c.ob (s0.nx + 1) (by have:=hU.nx;omega) (by omega)).trans e8
 have c8:CanG s0.gn o8 S1:=by
  rcases c8 with h | ⟨g,h,h2,h3,h4⟩
  ·exact .inl h
  exact .inr ⟨g,h,(k1.c.gl g h3).trans h2,Nat.lt_of_lt_of_le h3 k1.c.gn,h4⟩
 refine qp J (qn (kq10 J) kn (er (hldo J e3 J ?_)))
 refine pq3 J ?_
 refine qp (t:=.val (.ptr j.k (0 + 5 + (sideOf w).toNat * 1))) (by cases w <;> rfl) ?_
 refine hldo rfl R1.hk (y:=.map (j.i w)) (by cases w <;> rfl) ?_
 refine qp rfl (hlk2 (id:=j.i w) (m:=ndM (M w)) rfl rfl rfl (R1.hm w) ?_)
 obtain ⟨a0,a1,a2,a3,a4,hz,hz2⟩:=old_cells (M w) a
 rw [hz,ndM_some]
 refine pq3 J (hal (dc (dc (dc (dc (dc (dq16 J) J) J) J) J) J) (hstl J J J J (Nlb J) (lq5 J) (qp J (qn (kq12 J) (kq1 J) (er (hldo J e8 J ?_))))))
 refine qp rfl (qp rfl (hlda rfl rfl (lc rfl (lc rfl (lc rfl (lc rfl (lc rfl (ln rfl)))))) (qp rfl (hbuild (cs:=[I (sideOf w),I a,a0,a1,a2,a3,a4,B (M w a).isSome]) rfl rfl rfl (hbsl (q':=[encR (w,a,M w a)]) rfl rfl (enc_old hz2) (hapR (g0:=s0.gn) (r:=(ad ++ [(w,a,M w a)]).map encR) rfl rfl c8 (by simp) (by have:=hU.al;simp;omega) (by rw [List.map_append];rfl) ?_))))))
 intro v1 gl1 hv1 hv2 hg1
 refine hstR J J e8 (by simp) hv1 J ?_
 intro v2 gl2 hv3 hg2 hg3
 have hd3:s0.nx ≠ s0.nx + 1:=by omega
 refine qn (kq10 J) kn (er (qp J (qn (kq11 J) kn (eseq (er (pq2 J (qb ?_)))))))
 rintro (_ | _) h2
 refine qn (kq12 J) kn (ecF J (eskip (sqn (er (hldo J ((upd_ne _ _ hd3).trans e3) J ?_)))))
 rotate_left
 refine qn (kq12 J) kn (ecT J (ereg (qp J (qn (kq11 J) kn (er (hldo J ((upd_ne _ _ hd3).trans e3) J ?_))))))
 rotate_left
 all_goals
  refine pq3 J ?_
  refine qp (t:=.val (.ptr j.k (0 + 5 + (sideOf w).toNat * 1))) (by cases w <;> rfl) ?_
  refine hldo rfl ((upd_ne _ _ (show j.k ≠ s0.nx + 1 by omega)).trans R1.hk) (y:=.map (j.i w)) (by cases w <;> rfl) ?_
  refine pq3 J (hbuild J J (lq5 J) ?_)
  have hil:=hU.il
  refine hmu (id:=j.i w) (m:=ndM (M w)) rfl rfl rfl rfl ((upd_ne _ _ (show j.i w ≠ s0.nx + 1 by have:=hil w;omega)).trans (R1.hm w)) ?_
  have hvar:∀ y:AV,y.er=.agg (varN w x).cs → mset (ndM (M w)) (.int .i64 a) (some y.er)=ndM (putG M w a (some (varN w x)) w):=fun y hy=>by rw [hy,ndM_put]
  rw [hvar _ (by cases w;(first | rfl | (exfalso;revert h2;decide));(first | rfl | (exfalso;revert h2;decide)))]
  refine qk (kc rfl (kc rfl (kc rfl (kc rfl (kc rfl (kc rfl (kc rfl (kc rfl kn)))))))) kn (sqn (ereg (qp rfl (qp rfl (hbsl rfl rfl (lc rfl (ln rfl)) (hapC (r:=(names ++ [x]).map I) rfl rfl (CanM.can ((h9.up (n1:=n + 1) (v1:=v2) (by omega) fun t ht=>(hv3 t (by omega)).trans (hv2 t (by omega))))) (by simp) (by have:=hU.nl;simp;omega) (by rw [List.map_append];rfl) ?_))))))
  intro v4 hc9 hv4
  have hU2:=hU.step ha hw f1 R1 k1 hL hc e3 gl2 hg2 (fun g hg=>(hg3 g (Nat.lt_of_lt_of_le hg (Nat.le_trans hU.ch.c.gn k1.c.gn))).trans (hg1 g hg))
  refine qp J (qk (kq7 J) kn (bqn (sqn (ereg (hadd J J (i64w (by omega)) (qp J (qk (kq7 J) kn ?_)))))))
  exact und_l s0 j T L hL l c M0 p0 vs cs hlen hc hs fnm bx brow hbx hbl hbX hf (i + 1) (by omega) _ _ _ _ _ hU2 (CanM.new hc9 (Nat.zero_le _)) hX
termination_by vs.length - i
decreasing_by all_goals omega
theorem under_c (s:Sg) (j:RI) (T:Bool → Int → Bool) (L:Bool → List Int) (hL:∀ w x,T w x=true → x ∈ L w) (l:Int) (c:Nat) (M0:NM) (p0:Bool → Int) (vs:List Int) (cs:List Bool) (hlen:vs.length ≤ cs.length) (hc:∀ w,(L w).length + c + vs.length ≤ 2 ^ 40) (hs:vs.length ≤ 2 ^ 40) (fnm bx:Nat) (brow:List AV) (hbx:s.ob bx=some (.row brow)) (hbl:bx < s.nx) (hbX:¬ j.X bx)
 (hf:∀ (i:Nat) b S',cs[i]?=some b → S'.ob bx=some (.row brow) → HC p fnm [I i,.ptr bx 0] S' (fun r s'=>r=[B b] ∧ s'=S')) (hR:RN j T p0 l M0 s) (hP:Pot L p0 c):HC p N64_ [.ptr j.k 0,ints vs,.fn fnm [] [.ptr bx 0]] s (fun r s'=>∃ names M q b3 b8 ad,r=[ints names,.fn N75_ [] [.ptr b8 0,.ptr b3 0]] ∧ Und T M0 p0 vs cs names M q ∧ RN j T q l M s' ∧ Pot L q (c + vs.length) ∧ undoG M ad=M0 ∧ ad.length=vs.length ∧ names.length=vs.length ∧ UB j b3 b8 ad s' ∧ Ch j.X s s' ∧ s.nx ≤ b3 ∧ s.nx ≤ b8):=by
 refine hcf J f64_ J ?_
 simp only [chainOf]
 refine er (hboxo J (lq1 J) (pq2 J (qn (kq3 J) kn (er (hall (qn (kq4 J) kn (er (qp J (qn (kq5 J) kn (eseq (er (pq3 J (qk (kq7 J) kn ?_)))))))))))))
 refine sqn (eblock (und_l s j T L hL l c M0 p0 vs cs hlen hc hs fnm bx brow hbx hbl hbX hf 0 (Nat.zero_le _) [] M0 p0 [] .full (ul_init s vs cs hR hP) (.inl J) ?_))
 intro k n1 v1 S1 names M q ad o9 hU
 refine bqx (sqn (er (pq4 J (qn (kq2 J) kn (eret (fqr J ?_))))))
 obtain ⟨o8,e8,_⟩:=hU.h8
 have hnx:=hU.nx
 have un:=hU.un
 rw [List.take_of_length_le (Nat.le_refl _)] at un
 exact ⟨names,M,q,s.nx,s.nx + 1,ad,rfl,un,hU.rn,hU.po,hU.ud,hU.al,hU.nl,⟨hU.h3,⟨o8,e8⟩,by omega,by omega,fun w=>by have:=hU.il w;omega,fun w=>by have:=hU.il w;omega⟩,hU.ch,Nat.le_refl _,by omega⟩
theorem putG_twice {α:Type} (M:Bool → Int → α) (w:Bool) (v:Int) (x y:α):putG (putG M w v x) w v y=putG M w v y:=by
 funext w' v'
 unfold putG
 by_cases h:w'=w ∧ v'=v
 ·simp [h]
 simp [h]
theorem undn_l (j:RI) (T:Bool → Int → Bool) (pp:Bool → Int) (l:Int) (b3 b8:Nat) (ad:List OldN) (hz:ad.length ≤ 2 ^ 40) (M:NM) (m:Nat) (hm:m ≤ ad.length) {n:Nat} {v:Nat → Bool} {D:List (Nat × List AV)} {S:Sg} {Q:Ex → Fr → Prop} (hR:RN j T pp l M S) (hB:UB j b3 b8 ad S)
 (hX:∀ S',RN j T pp l (undoG M (ad.take m)) S' → Ch (fun i=>i=j.i0 ∨ i=j.i1) S S' → Q (.exit 0) ⟨uv (uv (uv (uv e0 8 (B false)) 2 (I (-1))) 1 (.ptr b3 0)) 0 (.ptr b8 0),(fun _=>none),n,v,D,S'⟩):EX (callL p) (.loop F75_l1) ⟨uv (uv (uv e0 2 (I ((m:Int) - 1))) 1 (.ptr b3 0)) 0 (.ptr b8 0),(fun _=>none),n,v,D,S⟩ Q:=by
 refine eloop (eseq (er (pq2 J (qb ?_))))
 rintro (_ | _) h1
 refine qn (kq4 J) kn (ecF J (eexit (sqx ?_)))
 have hm0:m=0:=by simp at h1;omega
 subst hm0
 exact hX S hR (Ch.refl _)
 refine qn (kq4 J) kn (ecT J (eskip (sqn (eseq (eblock (er ?_))))))
 obtain ⟨m',rfl⟩:∃ m',m=m' + 1:=⟨m - 1,by simp at h1;omega⟩
 obtain ⟨⟨w,x,q⟩,ha⟩:=get_of_lt (l:=ad) (i:=m') (by omega)
 have et:ad.take (m' + 1)=ad.take m' ++ [(w,x,q)]:=by simp [List.take_add_one,ha]
 have hu:undoG M (ad.take (m' + 1))=undoG (putG M w x q) (ad.take m'):=by rw [et];simp [undoG]
 rw [hu] at hX
 obtain ⟨o,hA⟩:=hB.h8
 refine hldo J hA J ?_
 refine qp J ?_
 refine hia (y:=encR (w,x,q)) rfl rfl (by omega) (by rw [Lgm,show ((m' + 1:Nat):Int) - 1=(m':Int) from by omega,Int.toNat_natCast,ha];rfl) rfl ?_
 refine hlda J J (lq8 J) (hal (dq8 J) (hstl J J J J (Nlb J) (lq8 J) (qn (kq4 J) (kq1 J) (er (hldo J hB.h3 J ?_)))))
 refine pq4 J ?_
 refine qp (t:=.val (.ptr j.k (0 + 5 + (sideOf w).toNat * 1))) (by cases w <;> rfl) ?_
 refine hldo rfl hR.hk (y:=.map (j.i w)) (by cases w <;> rfl) ?_
 refine qp rfl (qp rfl (hdl (id:=j.i w) (m:=ndM (M w)) rfl rfl rfl (hR.hm w) ?_))
 rw [ndM_del]
 refine qn (kq4 J) (kq1 J) (er (qp J ?_))
 have hRf:q.isSome=false → ∀ S1,S1=S.set (j.i w) (.map (.int .i64) (ndM (putG M w x none w))) → RN j T pp l (putG M w x q) S1:=fun g S1 e=>by
  cases q with
  | some t=>cases g
  | none=>rw [e];exact hR.map w x none
 refine qp J (qb ?_)
 rintro (_ | _) h2
 refine qn (kq5 J) (kq1 J) (ecF J (eskip (bqn (sqn (ereg ?_)))))
 rotate_left
 refine qn (kq5 J) (kq1 J) (ecT J (ereg (hldo J ((set_ne (hB.d3 w)).trans hB.h3) J ?_)))
 refine pq4 J ?_
 refine qp (t:=.val (.ptr j.k (0 + 5 + (sideOf w).toNat * 1))) (by cases w <;> rfl) ?_
 refine hldo rfl ((set_ne (hR.ki w)).trans hR.hk) (y:=.map (j.i w)) (by cases w <;> rfl) ?_
 refine pq3 J (hlda J J (lq5 J) ?_)
 obtain ⟨t,rfl⟩:∃ t,q=some t:=Option.isSome_iff_exists.1 ‹_›
 have hRq:∀ S1,S1=(S.set (j.i w) (.map (.int .i64) (ndM (putG M w x none w)))).set (j.i w) (.map (.int .i64) (ndM (putG (putG M w x none) w x (some t) w))) → RN j T pp l (putG M w x (some t)) S1:=fun S1 e=>by
  have z:=(hR.map w x none).map w x (some t)
  rw [putG_twice] at z
  rw [e,putG_twice]
  exact z
 refine hmu (id:=j.i w) (m:=ndM (putG M w x none w)) rfl rfl rfl rfl set_ob ?_
 rw [show mset (ndM (putG M w x none w)) (.int .i64 x) (some (AV.er _))=ndM (putG (putG M w x none) w x (some t) w) from ndM_put _ w x t]
 refine qk (kq3 J) kn (bqn (sqn (ereg ?_)))
 rotate_left
 all_goals
  try have hRq:=hRf ‹_›
  generalize hS1:Sg.set _ _ _=S1
  replace hS1:=hS1.symm
  refine qp rfl (hsub (r:=(m':Int) - 1) rfl rfl (by rw [i64w (by omega)];omega) (qp rfl (qk (kc rfl (kc rfl (kc rfl kn))) kn ?_)))
  have iY:∀ w,j.i w=j.i0 ∨ j.i w=j.i1:=fun w=>by cases w;exact .inl rfl;exact .inr rfl
  have hc1:Ch (fun i=>i=j.i0 ∨ i=j.i1) S S1:=by
   rw [hS1]
   first
   | exact ((Ch.refl S).set (fun _=>iY w) _).set (fun _=>iY w) _
   | exact (Ch.refl S).set (fun _=>iY w) _
  have nY:∀ i,i ≠ j.i0 → i ≠ j.i1 → ¬ (i=j.i0 ∨ i=j.i1):=fun i a b c=>c.elim a b
  have hB1:=hB.keep hc1.c (nY _ (hB.d3 false) (hB.d3 true)) (nY _ (hB.d8 false) (hB.d8 true))
  have hR1:=hRq _ hS1
  exact undn_l j T pp l b3 b8 ad hz _ m' (by omega) hR1 hB1 (fun S' h c2=>hX S' h (hc1.trans c2))
termination_by m
decreasing_by all_goals omega
theorem undn_c (s:Sg) (j:RI) (T:Bool → Int → Bool) (pp:Bool → Int) (l:Int) (b3 b8:Nat) (ad:List OldN) (hz:ad.length ≤ 2 ^ 40) (M:NM) (hR:RN j T pp l M s) (hB:UB j b3 b8 ad s):HC p N75_ [.ptr b8 0,.ptr b3 0] s (fun r s'=>r=[] ∧ RN j T pp l (undoG M ad) s' ∧ Ch (fun i=>i=j.i0 ∨ i=j.i1) s s'):=by
 refine hcf J f75_ J ?_
 simp only [chainOf]
 refine er ?_
 obtain ⟨o,hA⟩:=hB.h8
 refine hldo J hA J ?_
 refine qp rfl (hsub (r:=(ad.length:Int) - 1) rfl rfl (by simp;rw [i64w (by omega)]) (qp rfl (qk (kc rfl (kc rfl (kc rfl kn))) kn (sqn (eblock (undn_l j T pp l b3 b8 ad hz M ad.length (Nat.le_refl _) hR hB ?_))))))
 intro S1 hR1 hc1
 rw [List.take_length] at hR1
 refine bqx (fqn J ?_)
 exact ⟨rfl,hR1,hc1⟩
end Go.Sim.Kd
namespace Go.Sim.Kd
open Go Go.Sim
mutual
def cst (K:Nat):Node → Nat
 | .mk _ _ _ args brs=>(K + 1) + csts K args + cstBs K brs
def csts (K:Nat):List Node → Nat
 | []=>0
 | a :: as=>cst K a + csts K as
def cstB (K:Nat):Br → Nat
 | .mk vars _ body=>2 * vars.length + 2 + cst K body
def cstBs (K:Nat):List Br → Nat
 | []=>0
 | b :: bs=>cstB K b + cstBs K bs
end
theorem cst_eq (K:Nat) (a:Node):cst K a=(K + 1) + csts K a.args + cstBs K a.brs:=by
 cases a
 rw [cst]
 rfl
theorem cstB_eq (K:Nat) (b:Br):cstB K b=2 * b.vars.length + 2 + cst K b.body:=by
 cases b
 rw [cstB]
 rfl
theorem csts_app (K:Nat) (l m:List Node):csts K (l ++ m)=csts K l + csts K m:=by
 induction l with
 | nil=>simp [csts]
 | cons a l ih=>simp only [List.cons_append,csts,ih];omega
theorem cstBs_app (K:Nat) (l m:List Br):cstBs K (l ++ m)=cstBs K l + cstBs K m:=by
 induction l with
 | nil=>simp [cstBs]
 | cons a l ih=>simp only [List.cons_append,cstBs,ih];omega
theorem nBds_app (l m:List Node):nBds (l ++ m)=nBds l + nBds m:=by
 induction l with
 | nil=>simp [nBds]
 | cons a l ih=>simp only [List.cons_append,nBds,ih];omega
theorem bBds_app (l m:List Br):bBds (l ++ m)=bBds l + bBds m:=by
 induction l with
 | nil=>simp [bBds]
 | cons a l ih=>simp only [List.cons_append,bBds,ih];omega
theorem szNs_app (l m:List Node):szNs (l ++ m)=szNs l + szNs m:=by
 induction l with
 | nil=>simp [szNs]
 | cons a l ih=>simp only [List.cons_append,szNs,ih];omega
theorem szBs_app (l m:List Br):szBs (l ++ m)=szBs l + szBs m:=by
 induction l with
 | nil=>simp [szBs]
 | cons a l ih=>simp only [List.cons_append,szBs,ih];omega
def SubC (j:RI) (T:Bool → Int → Bool) (L:Bool → List Int) (K:Nat) (b:Node):Prop:=∀ (s:Sg) (M:NM) (pp:Bool → Int) (l:Int) (c:Nat),RN j T pp l M s → Pot L pp c → (∀ w,(L w).length + c + nBd b ≤ 2 ^ 39) → (∀ w v x,M w v=some x → x.sz ≤ K) → (cst K b:Int) ≤ l + 2 ^ 61 → l ≤ 2 ^ 40 →
 HC p N42_ [.ptr j.k 0,.agg b.cs] s (fun r s'=>∃ z q l',r=[.agg z.cs] ∧ RN j T q l' M s' ∧ Pot L q (c + nBd b) ∧ l - cst K b ≤ l' ∧ l' ≤ l ∧ (0 ≤ l' → SubN T b M pp z q) ∧ z.sz ≤ cst K b ∧ Ch j.X s s')
def SubBC (j:RI) (T:Bool → Int → Bool) (L:Bool → List Int) (K:Nat) (b:Br):Prop:=∀ (s:Sg) (M:NM) (pp:Bool → Int) (l:Int) (c:Nat),RN j T pp l M s → Pot L pp c → (∀ w,(L w).length + c + bBd b ≤ 2 ^ 39) → (∀ w v x,M w v=some x → x.sz ≤ K) → (cstB K b:Int) ≤ l + 2 ^ 61 → l ≤ 2 ^ 40 →
 HC p N66_ [.ptr j.k 0,.agg (ints b.vars :: bools b.co :: b.body.cs)] s (fun r s'=>∃ z q l',r=[.agg (ints z.vars :: bools z.co :: z.body.cs)] ∧ RN j T q l' M s' ∧ Pot L q (c + bBd b) ∧ l - cstB K b ≤ l' ∧ l' ≤ l ∧ (0 ≤ l' → SubB T b M pp z q) ∧ z.sz ≤ cstB K b ∧ Ch j.X s s')
theorem Und_congr {T:Bool → Int → Bool} {M':NM} {q:Bool → Int}:∀ {vs:List Int} {cs cs':List Bool} {names:List Int} {M:NM} {p:Bool → Int},(∀ i,i < vs.length → coAt cs i=coAt cs' i) → Und T M p vs cs names M' q → Und T M p vs cs' names M' q
 | [],cs,cs',names,M,p,_,h=>by
   rw [Und] at h ⊢
   exact h
 | u :: vs,cs,cs',names,M,p,hc,h=>by
   rw [Und] at h ⊢
   obtain ⟨y,p1,names',f1,rfl,h1⟩:=h
   have e:cs.headD false=cs'.headD false:=by
    have:=hc 0 (by simp)
    rw [← coAt_drop,← coAt_drop] at this
    exact this
   rw [e] at f1 h1
   refine ⟨y,p1,names',f1,J,Und_congr (fun i hi=>?_) h1⟩
   have:=hc (i + 1) (by simp;omega)
   rw [← coAt_drop,← coAt_drop] at this ⊢
   rw [List.drop_tail,List.drop_tail]
   exact this
theorem Und_sz {T:Bool → Int → Bool} {K:Nat} (hK:1 ≤ K) {M':NM} {q:Bool → Int}:∀ {vs:List Int} {cs:List Bool} {names:List Int} {M:NM} {p:Bool → Int},Und T M p vs cs names M' q → (∀ w v x,M w v=some x → x.sz ≤ K) → ∀ w v x,M' w v=some x → x.sz ≤ K
 | [],cs,names,M,p,h,hM=>by
   rw [Und] at h
   obtain ⟨_,rfl,_⟩:=h
   exact hM
 | u :: vs,cs,names,M,p,h,hM=>by
   rw [Und] at h
   obtain ⟨y,p1,names',f1,_,h1⟩:=h
   refine Und_sz hK h1 fun w v x hx=>?_
   unfold putG at hx
   split at hx
   ·cases hx
    exact hK
   exact hM w v x hx
theorem range_at (f:Nat → Bool) {n i:Nat} (h:i < n):coAt ((List.range n).map f) i=f i:=by
 rw [coAt,Lgm,List.getElem?_range h]
 rfl
theorem brc_c (s:Sg) (b:Br) (hb:b.co.length ≤ 2 ^ 40) (bx:Nat) (hx:s.ob bx=some (.row (ints b.vars :: bools b.co :: b.body.cs))) (i:Nat):HC p N76_ [I i,.ptr bx 0] s (fun r s'=>r=[B (coAt b.co i)] ∧ s'=s):=by
 refine hcf J f76_ J ?_
 simp only [chainOf]
 refine eseq (ereg (qp rfl (qk (kc rfl (kc rfl kn)) kn (sqn (eseq (ereg (hldo (y:=.agg (ints b.vars :: bools b.co :: b.body.cs)) rfl hx rfl ?_)))))))
 refine qp J (hcall J J J (co_c _ b hb i) ?_)
 rintro _ _ ⟨rfl,rfl⟩
 refine qp J (qn (kq1 J) kn (eret (fqr J ?_)))
 exact ⟨rfl,rfl⟩
theorem suc2_c (s:Sg) (op n ty:Int) (va vb:AV) (bx:Nat) (hx:s.ob bx=some (.row [I op,I n,I ty,va,vb])) (i:Int):HC p N65_ [I i,.ptr bx 0] s (fun r s'=>r=[B (decide (op=3))] ∧ s'=s):=by
 refine hcf J f65_ J ?_
 simp only [chainOf]
 refine eseq (ereg (qp rfl (qk (kc rfl kn) kn (sqn (eseq (ereg (qp rfl (hldo (y:=I op) rfl hx rfl ?_))))))))
 refine pq2 J (qn (kq1 J) kn (eret (fqr J ?_)))
 exact ⟨rfl,rfl⟩
theorem suc1_c (s:Sg):HC p N63_ [] s (fun r s'=>r=[] ∧ s'=s):=by
 refine hcf J f63_ J ?_
 simp only [chainOf]
 refine eskip (fqn J ?_)
 exact ⟨rfl,rfl⟩
theorem brs_l (j:RI) (b:Br) (hb:b.co.length ≤ 2 ^ 40) (hv:b.vars.length ≤ 2 ^ 40) (bx:Nat) (names:List Int) (z:Node) (i:Nat) (hi:i ≤ b.vars.length) (o:Own) {n:Nat} {v:Nat → Bool} {D:List (Nat × List AV)} {S:Sg} {Q:Ex → Fr → Prop} (hx:S.ob bx=some (.row (ints b.vars :: bools b.co :: b.body.cs))) (hc:CanM 0 o v n)
 (hX:∀ k n' v' o',Q (.exit 0) ⟨uv (upd (upd (uv (uv (uv e0 28 (B false)) 27 (I k)) 26 (I (b.vars.map I).length)) 7 (some (.loc 7 0))) 4 (some (.loc 4 0))) 3 (.ptr bx 0),upd (upd ((fun _=>none)) 7 (some ([ints names,.slice o' 1 (((List.range b.vars.length).map (coAt b.co)).map B),I z.op,I z.n,I z.ty,SL 5 (z.args.map Node.enc),SL 7 (z.brs.map Br.enc)]))) 4 (some ([.slice .full 1 [],.slice .full 1 [],I 0,I 0,I 0,.slice .full 5 [],.slice .full 7 []])),n',v',D,S⟩):EX (callL p) (.loop F66_l1) ⟨uv (upd (upd (uv (uv e0 27 (I i)) 26 (I (b.vars.map I).length)) 7 (some (.loc 7 0))) 4 (some (.loc 4 0))) 3 (.ptr bx 0),upd (upd ((fun _=>none)) 7 (some ([ints names,.slice o 1 (((List.range i).map (coAt b.co)).map B),I z.op,I z.n,I z.ty,SL 5 (z.args.map Node.enc),SL 7 (z.brs.map Br.enc)]))) 4 (some ([.slice .full 1 [],.slice .full 1 [],I 0,I 0,I 0,.slice .full 5 [],.slice .full 7 []])),n,v,D,S⟩ Q:=by
 refine eloop (er (qp J (qb ?_)))
 rintro (_ | _) h1
 ·refine qn (kq6 J) (kq2 J) (eseq (ecF J (eexit (sqx ?_))))
  obtain rfl:i=b.vars.length:=by simp at h1;omega
  exact hX _ _ _ _
 refine qn (kq6 J) (kq2 J) (eseq (ecT J (eskip (sqn (eseq (eblock (er (pq2 J (qn (kq6 J) (kq2 J) (ereg (pq2 J ?_)))))))))))
 have hlt:i < b.vars.length:=by simpa using h1
 refine hldo (y:=.agg (ints b.vars :: bools b.co :: b.body.cs)) rfl hx rfl ?_
 refine qp J (hcall J J J (co_c _ b hb i) ?_)
 rintro _ _ ⟨rfl,rfl⟩
 refine hbsl rfl rfl (lc rfl (ln rfl)) (hapC (r:=((List.range (i + 1)).map (coAt b.co)).map B) rfl rfl hc.can (by simp) (by simp;omega) (by simp [List.range_succ,AV.er]) ?_)
 intro v1 hc1 hv1
 refine qp J (hstl J J J J (Nlb J) (lq7 J) (qk (kq5 J) (kq2 J) (bqn (sqn (ereg (hadd J J (i64w (by omega)) (qp J (qk (kq5 J) (kq2 J) ?_))))))))
 exact brs_l j b hb hv bx names z (i + 1) (by omega) _ hx (CanM.new hc1 (Nat.zero_le _)) hX
termination_by b.vars.length - i
decreasing_by all_goals omega
theorem branch_c (j:RI) (T:Bool → Int → Bool) (L:Bool → List Int) (hL:∀ w x,T w x=true → x ∈ L w) (K:Nat) (hK:1 ≤ K) (b:Br) (hb:b.sz ≤ 2 ^ 30) (H:SubC j T L K b.body) (s:Sg) (M:NM) (pp:Bool → Int) (l:Int) (c:Nat) (hR:RN j T pp l M s) (hP:Pot L pp c) (hc:∀ w,(L w).length + c + bBd b ≤ 2 ^ 39) (hM:∀ w v x,M w v=some x → x.sz ≤ K) (hl:(cstB K b:Int) ≤ l + 2 ^ 61) (hl2:l ≤ 2 ^ 40):HC p N66_ [.ptr j.k 0,.agg (ints b.vars :: bools b.co :: b.body.cs)] s (fun r s'=>∃ z q l',r=[.agg (ints z.vars :: bools z.co :: z.body.cs)] ∧ RN j T q l' M s' ∧ Pot L q (c + bBd b) ∧ l - cstB K b ≤ l' ∧ l' ≤ l ∧ (0 ≤ l' → SubB T b M pp z q) ∧ z.sz ≤ cstB K b ∧ Ch j.X s s'):=by
 have hbd:=bBd_eq b
 have hce:=cstB_eq K b
 have hv1:=b.sz_vars
 have hv2:=b.sz_co
 have hkl:=hR.kl
 have htl:=hR.tl
 have hil:=hR.il
 have nX:∀ i,s.nx ≤ i → ¬ j.X i:=fun i hi h=>by
  have h0:=hil false
  have h1:=hil true
  simp only [RI.i,Bool.false_eq_true,if_false,if_true] at h0 h1
  rcases h with h | h | h <;> omega
 have nT:∀ i,s.nx ≤ i → ∀ w,i ≠ j.t w:=fun i hi w=>by have:=htl w;omega
 refine hcf J f66_ J ?_
 simp only [chainOf]
 refine eseq (ereg (hboxo (y:=.agg (ints b.vars :: bools b.co :: b.body.cs)) (cs:=ints b.vars :: bools b.co :: b.body.cs) rfl rfl ?_))
 have b1:(s.new (.row (ints b.vars :: bools b.co :: b.body.cs))).ob s.nx=some (.row (ints b.vars :: bools b.co :: b.body.cs)):=new_ob
 have k0:Ch j.X s (s.new (.row (ints b.vars :: bools b.co :: b.body.cs))):=⟨Chg.new (Chg.refl s),Nat.le_refl _,fun _ _=>rfl⟩
 have R0:=hR.keep (Y:=fun _=>False) (S':=s.new (.row (ints b.vars :: bools b.co :: b.body.cs))) (Chg.new (Chg.refl s)) id (fun _=>id) (fun _=>id)
 generalize hS0:s.new (.row (ints b.vars :: bools b.co :: b.body.cs))=S0 at b1 k0 R0 ⊢
 have x0:S0.nx=s.nx + 1:=by rw [← hS0];rfl
 refine hal (dc (dc (dc dn rfl) rfl) rfl) (qk (kc rfl (kc rfl (kc rfl kn))) (kc rfl kn) (sqn (eseq (ereg (qp rfl (qp rfl (hldo (y:=ints b.vars) rfl b1 rfl ?_)))))))
 refine qp J ?_
 refine hcall rfl rfl rfl (under_c S0 j T L hL l c M pp b.vars ((List.range b.vars.length).map (coAt b.co)) (by simp) (fun w=>by have:=hc w;omega) (by omega) N76_ s.nx _ b1 (by omega) (nX _ (Nat.le_refl _)) (fun i d S' hd hx=>by
  have hlt:i < b.vars.length:=by
   rcases Nat.lt_or_ge i b.vars.length with h | h
   ·exact h
   rw [List.getElem?_eq_none (by simpa using h)] at hd;cases hd
  rw [Lgm,List.getElem?_range hlt] at hd
  cases hd
  exact brc_c S' b (by omega) s.nx hx i) R0 hP) ?_
 rintro _ S1 ⟨names,M1,q1,b3,b8,ad,rfl,un,R1,P1,ud,al,nl,ub,k1,g3,g8⟩
 have un2:Und T M pp b.vars b.co names M1 q1:=Und_congr (fun i hi=>range_at _ hi) un
 have b2:=(k1.c.ob _ (by omega) (nX _ (Nat.le_refl _))).trans b1
 have k1nx:=k1.c.nx
 refine qp rfl (qp rfl (qp rfl (qp rfl (qp rfl (qk (kc rfl (kc rfl (kc rfl (kc rfl (kc rfl kn))))) (kc rfl kn) (sqn (eseq (ereg (qp rfl (hdf rfl rfl rfl (qk (kc rfl (kc rfl (kc rfl (kc rfl kn)))) (kc rfl kn) (sqn (eseq (ereg (qp rfl (qp rfl (qp rfl (hldo (y:=.agg b.body.cs) rfl b2 rfl ?_))))))))))))))))))
 refine hcall rfl rfl rfl (H S1 M1 q1 l (c + b.vars.length) R1 P1 (fun w=>by have:=hc w;omega) (Und_sz hK un2 hM) (by omega) hl2) ?_
 rintro _ S2 ⟨z,q,l',rfl,R2,P2,lo,le,su,zs,k2⟩
 have b4:=(k2.c.ob _ (by omega) (nX _ (Nat.le_refl _))).trans b2
 have ub2:=ub.keep k2.c (nX _ (by omega)) (nX _ (by omega))
 refine hbuild (cs:=[ints names,.slice .full 1 [],I z.op,I z.n,I z.ty,SL 5 (z.args.map Node.enc),SL 7 (z.brs.map Br.enc)]) rfl rfl rfl (hal (dc (dc (dc (dc (dc (dc (dc (dc (dc (dc dn rfl) rfl) rfl) rfl) rfl) rfl) rfl) rfl) rfl) rfl) (hstl rfl rfl rfl rfl (Nlb rfl) (lc rfl (lc rfl (lc rfl (lc rfl (lc rfl (lc rfl (lc rfl (ln rfl)))))))) (qk (kc rfl (kc rfl (kc rfl kn))) (kc rfl (kc rfl kn)) (sqn (eseq (eseq (ereg (qp rfl (hldo (y:=ints b.vars) rfl b4 rfl ?_)))))))))
 refine pq2 J (qn (kq5 J) (kq2 J) (eblock (brs_l j b (by omega) (by omega) s.nx names z 0 (Nat.zero_le _) .full b4 (.inl J) ?_)))
 intro k n1 v1 o1
 refine bqx (sqn (er (hlda J J (lq7 J) (hstl J J J J (Nlb J) (lq7 J) (qn (kq1 J) (kq1 J) (eret ?_))))))
 refine fqd1 (.inl rfl) rfl f75_ rfl (undn_c S2 j T q l' b3 b8 ad (by rw [al];omega) M1 R2 ub2) ?_
 rintro r S3 ⟨rfl,R3,k3⟩
 rw [ud] at R3
 refine ⟨_,rfl,.mk names ((List.range b.vars.length).map (coAt b.co)) z,q,l',rfl,R3,?_,by omega,le,fun h=>?_,?_,((k0.trans k1).trans k2).trans (k3.mono fun i _ h=>.inr h)⟩
 ·rw [hbd,← Nat.add_assoc]
  exact P2
 ·exact (SubB_eq ..).2 ⟨names,M1,q1,z,un2,su h,rfl⟩
 simp only [Br.sz,List.length_map,List.length_range]
 omega
end Go.Sim.Kd
namespace Go.Sim.Kd
open Go Go.Sim
section
variable {E:Nat → Option TV} {L:Nat → Option (List AV)} {n:Nat} {v:Nat → Bool} {D:List (Nat × List AV)} {S:Sg} {l:List AIns} {Q:Fr → Prop}
theorem hldoq {c:Caller} {d rt id off:Nat} {m:Option Nat} {a:AO} {y:AV} {cs:List AV} {off0:Nat} (h0:E rt=some (.val (.ptr id off0))) (h1:ev E a=some (.val (.ptr id off))) (h2:S.ob id=some (.row cs)) (h3:rd m cs off=some y)
 (k:HL c l ⟨upd E d (some (.val y)),L,n,v,D,S⟩ Q):HL c (⟨some d,none,.ldo false rt m a⟩ :: l) ⟨E,L,n,v,D,S⟩ Q :=
 hop (by simp only [ins,run1,aop,h0,h1,Obs,ldoAt,h2,h3];rfl) k
theorem hcallk {p:Pg} {d:Nat} {ks:List Nat} {f:AO} {as:List AO} {g:Nat} {a b q q':List AV} {R:List AV → Sg → Prop}
 (h1:evV E f=some (.fn g a b)) (h2:evVs E as=some q) (h3:AV.ers (a ++ q ++ b)=q') (h4:HC p g q' S R) (hq:∀ res S',R res S' → keeps E S S' ks) (k:∀ res S',R res S' → HL (callL p) l ⟨upd E d (some (toTV res)),L,n,v,D,S'⟩ Q) :
 HL (callL p) (⟨some d,none,.callq ks f as⟩ :: l) ⟨E,L,n,v,D,S⟩ Q:=by
 subst h3
 obtain ⟨res,S',h5,h6⟩:=h4
 refine hop ?_ (k res S' h6)
 simp only [ins,run1,aop,h1,h2,Obs,callOf,h5,qres]
 rw [if_pos (hq res S' h6)]
 rfl
theorem hsts {p:Pg} {g off m:Nat} {a x:AO} {y:AV} {cs cs':List AV}
 (h1:evV E a=some (.mp g off)) (h2:evV E x=some y) (h3:S.mu g=some cs) (h4:stsK true m y (.mp g off)=true) (h5:off + y.cells.length ≤ cs.length) (h6:wr cs off y.erT.cells=cs')
 (k:HL (callL p) l ⟨E,L,n,v,D,{ S with mu:=upd S.mu g (some cs') }⟩ Q):HL (callL p) (⟨none,none,.sts true m a x⟩ :: l) ⟨E,L,n,v,D,S⟩ Q:=by
 subst h6
 refine hop ?_ k
 simp only [ins,run1,aop,h1,h2,Obs,stsS,if_pos h4,h3,if_pos h5]
 rfl
theorem hsto2 {p:Pg} {id off m:Nat} {a x:AO} {y:AV} {cs cs':List AV}
 (h1:evV E a=some (.ptr id off)) (h2:evV E x=some y) (h3:S.ob id=some (.row cs)) (h4:stsK false m y (.ptr id off)=true) (h5:off + y.cells.length ≤ cs.length) (h6:wr cs off y.erT.cells=cs')
 (k:HL (callL p) l ⟨E,L,n,v,D,S.set id (.row cs')⟩ Q):HL (callL p) (⟨none,none,.sts false m a x⟩ :: l) ⟨E,L,n,v,D,S⟩ Q:=by
 subst h6
 refine hop ?_ k
 simp only [ins,run1,aop,h1,h2,Obs,stsS,if_pos h4,h3,if_pos h5]
 rfl
end
theorem eretz_loc {c:Caller} {E:Nat → Option TV} {L:Nat → Option (List AV)} {n:Nat} {v:Nat → Bool} {D:List (Nat × List AV)} {S S':Sg} {Q:Ex → Fr → Prop} {k d:Nat} {cs ds:List AV} (h1:L d=some cs) (h2:frzDL (frzD k) S cs=some (ds,S'))
 (h:Q .ret ⟨E,upd L d (some ds),n,v,D,S'⟩):EX c (.retz k d) ⟨E,L,n,v,D,S⟩ Q:=eretz (by simp only [retzF,h1,h2];rfl) h
theorem frzDL0 (S:Sg) (cs:List AV):frzDL (frzD 0) S cs=some (cs,S):=by
 induction cs with
 | nil=>rfl
 | cons c cs ih =>
   have e:frzD 0 S c=some (c,S):=by simp only [frzD]
   rw [frzDL,e]
   simp only [Obs,ih]
theorem frz_ms {S:Sg} {g n sz k:Nat} {cs:List AV} (hs:0 < sz) (hg:S.mu g=some cs) (hc:frzDL (frzD k) S cs=some (cs,S)) (hn:AV.nts cs=true) (hl:cs.length=n * sz) :
 frzD (k + 1) S (.ms g 0 n sz)=some (.slice .none sz (unfl sz n cs),{ S with mu:=upd (upd S.mu g (some cs)) g none }):=by
 simp only [frzD,hg,hc,Obs]
 rw [if_pos ⟨trivial,hn⟩]
 simp only [frzOf]
 rw [if_pos ⟨trivial,hs⟩,upd_same]
 simp only [Obs]
 rw [if_pos (by omega),List.drop_zero,← hl,List.take_length]
def Els (sz:Nat) (xs:List AV):Prop:=∀ x ∈ xs,∃ cs,x=.agg cs ∧ cs.length=sz ∧ AV.nts cs=true
theorem unfl_flat {sz:Nat} (h1:sz ≠ 1):∀ {xs:List AV},Els sz xs → unfl sz xs.length (flat xs)=xs
 | [],_=>rfl
 | x :: xs,h=>by
   obtain ⟨cs,rfl,hl,_⟩:=h x (by simp)
   have e:flat (.agg cs :: xs)=cs ++ flat xs:=rfl
   rw [e,List.length_cons,unfl]
   have e2:(cs ++ flat xs).take sz=cs:=by rw [← hl,List.take_left]
   have e3:(cs ++ flat xs).drop sz=flat xs:=by rw [← hl,List.drop_left]
   rw [e2,e3,unfl_flat h1 fun y hy=>h y (by simp [hy])]
   exact fun _ _ h _=>h1 h
theorem nts_app:∀ {l m:List AV},AV.nts l=true → AV.nts m=true → AV.nts (l ++ m)=true
 | [],m,_,h=>h
 | a :: l,m,h,k=>by
   simp only [List.cons_append,AV.nts,Bae] at h ⊢
   exact ⟨h.1,nts_app h.2 k⟩
theorem els_nts {sz:Nat}:∀ {xs:List AV},Els sz xs → AV.nts (flat xs)=true
 | [],_=>rfl
 | x :: xs,h=>by
   obtain ⟨cs,rfl,hl,hn⟩:=h x (by simp)
   exact nts_app hn (els_nts fun y hy=>h y (by simp [hy]))
theorem els_len {sz:Nat} {xs:List AV} (h:Els sz xs):∀ x ∈ xs,x.cells.length=sz:=by
 intro x hx
 obtain ⟨cs,rfl,hl,_⟩:=h x hx
 exact hl
theorem frz_we {sz:Nat} (h0:0 < sz) (h1:sz ≠ 1) {v:AV} {xs:List AV} {S:Sg} (h:W.WE sz v xs S) (hx:Els sz xs):∃ o m,frzD 1 S v=some (.slice o sz xs,{ S with mu:=m }) ∧ ∀ g,g ∉ W.tk v → m g=S.mu g:=by
 rcases h.2 with ⟨hz,rfl⟩ | ⟨g,rfl,h2,h3⟩
 ·obtain rfl:xs=[]:=List.length_eq_zero_iff.1 hz
  exact ⟨.full,S.mu,rfl,fun _ _=>rfl⟩
 refine ⟨.none,upd (upd S.mu g (some (flat xs))) g none,?_,fun g' hg=>?_⟩
 ·rw [frz_ms h0 h2 (frzDL0 S _) (els_nts hx) h.1,unfl_flat h1 hx]
 have hg:g' ≠ g:=by simpa [W.tk] using hg
 rw [upd_ne _ _ hg,upd_ne _ _ hg]
theorem we_mono {sz:Nat} {v:AV} {xs:List AV} {S S':Sg} (h:W.WE sz v xs S) (hm:∀ g ∈ W.tk v,S'.mu g=S.mu g) (hn:S.mn ≤ S'.mn):W.WE sz v xs S' :=
 ⟨h.1,h.2.imp id fun ⟨g,e,h2,h3⟩=>⟨g,e,(hm g (by rw [e];simp [W.tk])).trans h2,Nat.lt_of_lt_of_le h3 hn⟩⟩
theorem we_lt {sz:Nat} {v:AV} {xs:List AV} {S:Sg} (h:W.WE sz v xs S):∀ g ∈ W.tk v,g < S.mn:=by
 rcases h.2 with ⟨_,rfl⟩ | ⟨g,rfl,_,hl⟩
 ·intro g hg;cases hg
 intro g' hg
 rw [List.mem_singleton.1 hg]
 exact hl
theorem we_len {sz:Nat} {v:AV} {xs:List AV} {S:Sg} (h:W.WE sz v xs S):lenOfA false v=some (I xs.length):=by
 rcases h.2 with ⟨hz,rfl⟩ | ⟨g,rfl,_⟩
 ·rw [hz];rfl
 rfl
theorem we_tip {sz:Nat} {v:AV} {xs:List AV} {S:Sg} (h:W.WE sz v xs S):tipF v=true ∧ v.cells=[v] ∧ v.erT=v:=by
 rcases h.2 with ⟨hz,rfl⟩ | ⟨g,rfl,_⟩
 ·exact ⟨rfl,rfl,rfl⟩
 exact ⟨rfl,rfl,rfl⟩
theorem acc_step {sz by_:Nat} {v:AV} {xs:List AV} {S:Sg} (h:W.WE sz v xs S) (zr y:AV) (hz:zr.cells.length=sz) (hy:y.cells.length=sz) (hl:(xs.length + 1) * by_ ≤ 2 ^ 47) :
 ∃ g S1,wopOf (.appm sz by_) S [v,.slice .full sz [zr]]=some (.ms g 0 (xs.length + 1) sz,S1) ∧ W.MX (W.tk v) S S1 ∧ S1.mu g=some (flat xs ++ zr.cells) ∧ (g ∈ W.tk v ∨ S.mn ≤ g) ∧ g < S1.mn ∧
  0 + xs.length * sz + y.cells.length ≤ (flat xs ++ zr.cells).length ∧ wr (flat xs ++ zr.cells) (0 + xs.length * sz) y.cells=flat (xs ++ [y]) ∧ W.WE sz (.ms g 0 (xs.length + 1) sz) (xs ++ [y]) { S1 with mu:=upd S1.mu g (some (flat (xs ++ [y]))) } ∧ iaOf sz (xs.length:Int) (.ms g 0 (xs.length + 1) sz)=some (.mp g (0 + xs.length * sz)):=by
 obtain ⟨b',S1,h1,h2,h3,h4⟩:=W.appm_w (sz:=sz) (by_:=by_) (x:=.slice .full sz [zr]) (k:=1) (ys:=flat [zr]) h (by simp [srcOf]) (by simp [flat,hz]) hl
 have e1:flat [zr]=zr.cells:=by simp [flat]
 rw [e1] at h2
 have hlen:=h.1
 rcases h2.2 with ⟨hz',_⟩ | ⟨g,rfl,h5,h6⟩
 ·omega
 have e2:flat (xs ++ [y])=flat xs ++ y.cells:=by simp [flat]
 refine ⟨g,S1,h1,h3,h5,h4 g (by simp [W.tk]),h6,by rw [List.length_append,hlen];omega,?_,⟨?_,.inr ⟨g,by rw [List.length_append];rfl,upd_same _ _ _,h6⟩⟩,?_⟩
 ·rw [wr,e2,Nat.zero_add,← hlen,List.take_left,List.drop_eq_nil_of_le (by rw [List.length_append];omega),List.append_nil]
 ·rw [e2,List.length_append,List.length_append,hlen,hy,List.length_singleton,Nat.add_mul,Nat.one_mul]
 simp only [iaOf,Int.toNat_natCast,true_and]
 rw [if_pos ⟨by omega,by omega⟩]
theorem enc_els (l:List Node):Els 5 (l.map Node.enc):=by
 intro x hx
 obtain ⟨a,_,rfl⟩:=List.mem_map.1 hx
 exact ⟨a.cs,Node.enc_eq a,rfl,rfl⟩
theorem encb_els (l:List Br):Els 7 (l.map Br.enc):=by
 intro x hx
 obtain ⟨a,_,rfl⟩:=List.mem_map.1 hx
 exact ⟨_,Br.enc_eq a,rfl,rfl⟩
theorem grow {X:Nat → Prop} {Ss S S1 S2:Sg} {b g:Nat} {v:AV} {o:AObj} {x:Option (List AV)} (h:Ch (fun i=>X i ∨ i=b) Ss S) (k:Ch X S S1) (m:W.MX (W.tk v) S1 S2) (ht:∀ g ∈ W.tk v,Ss.mn ≤ g) (hg:g ∈ W.tk v ∨ S1.mn ≤ g) :
 Ch (fun i=>X i ∨ i=b) Ss (Sg.set { S2 with mu:=upd S2.mu g x } b o):=by
 have h1:=h.trans (k.mono fun i _ e=>.inl e)
 have hgs:Ss.mn ≤ g:=hg.elim (ht g) fun e=>Nat.le_trans h1.mn e
 refine Ch.set (s':={ S2 with mu:=upd S2.mu g x }) ⟨⟨by show Ss.nx ≤ S2.nx;rw [m.nx];exact h1.c.nx,fun i hi hx=>(congrFun m.ob i).trans (h1.c.ob i hi hx),by show Ss.gn ≤ S2.gn;rw [m.gn];exact h1.c.gn,fun g' hg'=>(congrFun m.gl g').trans (h1.c.gl g' hg'),m.Q.trans h1.c.Q⟩,Nat.le_trans h1.mn m.mn,fun g' hg'=>?_⟩ (fun _=>.inr rfl) _
 refine (upd_ne _ _ (by omega)).trans ((m.mu g' (Nat.lt_of_lt_of_le hg' h1.mn) fun hx=>?_).trans (h1.mu g' hg'))
 have:=ht g' hx
 omega
theorem RN.grow {j:RI} {T:Bool → Int → Bool} {q:Bool → Int} {l:Int} {M:NM} {S1 S2:Sg} {X:List Nat} {b g:Nat} {o:AObj} {x:Option (List AV)} (h:RN j T q l M S1) (m:W.MX X S1 S2) (hk:b ≠ j.k) (ht:∀ w,b ≠ j.t w) (hi:∀ w,b ≠ j.i w) :
 RN j T q l M (Sg.set { S2 with mu:=upd S2.mu g x } b o):=by
 refine h.keep (Y:=fun i=>i=b) ⟨by show S1.nx ≤ S2.nx;rw [m.nx];exact Nat.le_refl _,fun i _ hx=>(set_ne hx).trans (congrFun m.ob i),by show S1.gn ≤ S2.gn;rw [m.gn];exact Nat.le_refl _,fun g' _=>congrFun m.gl g',m.Q⟩ (fun e=>hk e.symm) (fun w e=>ht w e.symm) (fun w e=>hi w e.symm)
def NodeRow (op n ty:Int) (vA vB:AV):List AV:=[I op,I n,I ty,vA,vB]
structure Off (j:RI) (b:Nat):Prop where
 k:b ≠ j.k
 t:∀ w,b ≠ j.t w
 i:∀ w,b ≠ j.i w
theorem Off.x {j:RI} {b:Nat} (h:Off j b):¬ j.X b:=fun e=>by
 have h0:=h.i false
 have h1:=h.i true
 simp only [RI.i,Bool.false_eq_true,if_false,if_true] at h0 h1
 rcases e with e | e | e
 ·exact h.k e
 ·exact h0 e
 exact h1 e
structure SA (j:RI) (T:Bool → Int → Bool) (L:Bool → List Int) (K:Nat) (Ss:Sg) (b:Nat) (a:Node) (nn:Int) (vB:AV) (M:NM) (pp:Bool → Int) (l:Int) (c:Nat) (xs:List Node) (i:Nat) (zs:List Node) (vA:AV) (q:Bool → Int) (l':Int) (S:Sg):Prop where
 rn:RN j T q l' M S
 po:Pot L q (c + nBds (xs.take i))
 lo:l - csts K (xs.take i) ≤ l'
 le:l' ≤ l
 su:0 ≤ l' → SubNs T (xs.take i) M pp zs q
 nl:zs.length=i
 sz:szNs zs ≤ csts K (xs.take i)
 ob:S.ob b=some (.row (NodeRow a.op nn a.ty vA vB))
 we:W.WE 5 vA (zs.map Node.enc) S
 tk:∀ g ∈ W.tk vA,Ss.mn ≤ g
 ch:Ch (fun i=>j.X i ∨ i=b) Ss S
 bl:b < S.nx
structure SB (j:RI) (T:Bool → Int → Bool) (L:Bool → List Int) (K:Nat) (Ss:Sg) (b:Nat) (a:Node) (nn:Int) (vA:AV) (M:NM) (pp:Bool → Int) (l:Int) (c:Nat) (xs:List Br) (i:Nat) (zs:List Br) (vB:AV) (q:Bool → Int) (l':Int) (S:Sg):Prop where
 rn:RN j T q l' M S
 po:Pot L q (c + bBds (xs.take i))
 lo:l - cstBs K (xs.take i) ≤ l'
 le:l' ≤ l
 su:0 ≤ l' → SubBs T (xs.take i) M pp zs q
 nl:zs.length=i
 sz:szBs zs ≤ cstBs K (xs.take i)
 ob:S.ob b=some (.row (NodeRow a.op nn a.ty vA vB))
 we:W.WE 7 vB (zs.map Br.enc) S
 tk:∀ g ∈ W.tk vB,Ss.mn ≤ g
 ch:Ch (fun i=>j.X i ∨ i=b) Ss S
 bl:b < S.nx
theorem take_snoc {α:Type} {l:List α} {i:Nat} {a:α} (h:l[i]?=some a):l.take (i + 1)=l.take i ++ [a]:=by rw [List.take_add_one,h];rfl
theorem sub_l1 (j:RI) (T:Bool → Int → Bool) (L:Bool → List Int) (K:Nat) (Ss:Sg) (b:Nat) (hb:Off j b) (a:Node) (nn:Int) (M:NM) (hM:∀ w v x,M w v=some x → x.sz ≤ K) (pp:Bool → Int) (l:Int) (hl2:l ≤ 2 ^ 40) (c:Nat) (vB:AV) (xs:List Node) (hx:xs.length ≤ 2 ^ 30) (H:∀ d ∈ xs,SubC j T L K d) (hc:∀ w,(L w).length + c + nBds xs ≤ 2 ^ 39) (hl:(csts K xs:Int) ≤ l + 2 ^ 61) (u10 u11:AV) (i:Nat) (hi:i ≤ xs.length) (zs:List Node) (vA:AV) (q:Bool → Int) (l':Int) {n:Nat} {v:Nat → Bool} {D:List (Nat × List AV)} {S:Sg} {Q:Ex → Fr → Prop} (hA:SA j T L K Ss b a nn vB M pp l c xs i zs vA q l' S)
 (hX:∀ k zs vA q l' S',SA j T L K Ss b a nn vB M pp l c xs xs.length zs vA q l' S' → Q (.exit 0) ⟨uv (uv (upd (uv (uv (uv (uv (uv (uv e0 105 (B false)) 104 (I k)) 103 (I (xs.map Node.enc).length)) 102 (SL 5 (xs.map Node.enc))) 11 (u11)) 10 (u10)) 4 (some (.loc 4 0))) 3 (.ptr b 0)) 0 (.ptr j.k 0),upd ((fun _=>none)) 4 (some ([I 0,I 0,I 0,.slice .full 5 [],.slice .full 7 []])),n,v,D,S'⟩):EX (callL p) (.loop F42_l1) ⟨uv (uv (upd (uv (uv (uv (uv (uv e0 104 (I i)) 103 (I (xs.map Node.enc).length)) 102 (SL 5 (xs.map Node.enc))) 11 (u11)) 10 (u10)) 4 (some (.loc 4 0))) 3 (.ptr b 0)) 0 (.ptr j.k 0),upd ((fun _=>none)) 4 (some ([I 0,I 0,I 0,.slice .full 5 [],.slice .full 7 []])),n,v,D,S⟩ Q:=by
 refine eloop (er (qp J (qb ?_)))
 rintro (_ | _) h1
 ·refine qn (kq9 J) (kq1 J) (eseq (ecF J (eexit (sqx ?_))))
  obtain rfl:i=xs.length:=by simp at h1;omega
  exact hX _ _ _ _ _ _ hA
 refine qn (kq9 J) (kq1 J) (eseq (ecT J (eskip (sqn (eseq (eblock (er ?_)))))))
 have hlt:i < xs.length:=by simpa using h1
 obtain ⟨d,hd⟩:=get_of_lt hlt
 refine hia (y:=.agg d.cs) rfl rfl (by omega) (by simp [hd,Node.enc_eq]) rfl (W.hldR (y:=.agg d.cs) rfl (.inl rfl) rfl (hal (dc (dc (dc (dc (dc (dc (dc (dc (dc (dc (dc dn rfl) rfl) rfl) rfl) rfl) rfl) rfl) rfl) rfl) rfl) rfl) (hstl rfl rfl rfl rfl (Nlb rfl) (lc rfl (lc rfl (lc rfl (lc rfl (lc rfl (ln rfl)))))) (qk (kc rfl (kc rfl (kc rfl (kc rfl (kc rfl (kc rfl (kc rfl (kc rfl (kc rfl kn))))))))) (kc rfl (kc rfl kn)) (sqn (ereg (qp rfl (hldoq rfl rfl hA.ob rfl ?_))))))))
 refine qp J (hlda J J (lq5 J) ?_)
 have ts:=take_snoc hd
 have tl:csts K (xs.take (i + 1)) + csts K (xs.drop (i + 1))=csts K xs:=by rw [← csts_app,List.take_append_drop]
 have tn:nBds (xs.take (i + 1)) + nBds (xs.drop (i + 1))=nBds xs:=by rw [← nBds_app,List.take_append_drop]
 have t1:csts K (xs.take (i + 1))=csts K (xs.take i) + cst K d:=by rw [ts,csts_app];rfl
 have t2:nBds (xs.take (i + 1))=nBds (xs.take i) + nBd d:=by rw [ts,nBds_app];rfl
 have hlo:=hA.lo
 have hle:=hA.le
 refine hcallk rfl rfl rfl (H d (Lmg hd) _ M q l' (c + nBds (xs.take i)) hA.rn hA.po (fun w=>by have:=hc w;omega) hM (by omega) (by omega)) ?_ ?_
 ·rintro _ S1 ⟨z,q',l2,rfl,R1,P1,lo1,le1,su1,sz1,k1⟩
  exact ⟨.inl ⟨b,0,_,rfl,hA.ob,(k1.c.ob _ hA.bl hb.x).trans hA.ob⟩,k1.c.Q⟩
 rintro _ S1 ⟨z,q',l2,rfl,R1,P1,lo1,le1,su1,sz1,k1⟩
 have ob1:=(k1.c.ob _ hA.bl hb.x).trans hA.ob
 have we1:=we_mono hA.we (fun g hg=>k1.mu g (we_lt hA.we g hg)) k1.mn
 obtain ⟨g,S2,w1,w2,w3,w4,w5,w6,w7,w8,w9⟩:=acc_step (by_:=72) we1 (.agg [I 0,I 0,I 0,SL 5 [],SL 7 []]) z.enc rfl (by rw [Node.enc_eq];rfl) (by have:=hA.nl;rw [List.length_map];omega)
 rw [List.length_map] at w1 w6 w7 w8 w9
 refine W.hlenA J (we_len we1) ?_
 rw [show (zs.map Node.enc).length=zs.length from List.length_map ..]
 refine hbsl (q':=[(.agg [I 0,I 0,I 0,SL 5 [],SL 7 []])]) rfl rfl rfl (hwop rfl w1 (W.hiaR rfl rfl w9 (hsts (y:=z.enc) (cs':=flat (zs.map Node.enc ++ [z.enc])) rfl (by rw [Node.enc_eq];rfl) w3 (by rw [Node.enc_eq];rfl) w6 (by rw [show z.enc.erT=z.enc from by rw [Node.enc_eq];rfl];exact w7) (qp rfl (hsto2 (cs':=NodeRow a.op nn a.ty (.ms g 0 (zs.length + 1) 5) vB) rfl rfl ((congrFun w2.ob b).trans ob1) rfl (Nlb rfl) rfl ?_)))))
 have hA2:SA j T L K Ss b a nn vB M pp l c xs (i + 1) (zs ++ [z]) (.ms g 0 (zs.length + 1) 5) q' l2 _:=⟨R1.grow (g:=g) (x:=some (flat (zs.map Node.enc ++ [z.enc]))) (b:=b) (o:=.row (NodeRow a.op nn a.ty (.ms g 0 (zs.length + 1) 5) vB)) w2 hb.k hb.t hb.i,by rw [t2,← Nat.add_assoc];exact P1,by omega,by omega,fun h=>by rw [ts];exact SubNs_snoc (hA.su (by omega)) (su1 h),by rw [List.length_append,hA.nl];rfl,by have:=hA.sz;rw [szNs_app,t1];simp only [szNs];omega,set_ob,by rw [List.map_append];exact w8,fun g' hg=>by rw [List.mem_singleton.1 hg];exact w4.elim (hA.tk g) fun e=>Nat.le_trans (Nat.le_trans hA.ch.mn k1.mn) e,grow hA.ch k1 w2 hA.tk w4,by show b < S2.nx;rw [w2.nx];exact Nat.lt_of_lt_of_le hA.bl k1.c.nx⟩
 refine qk (kq8 J) (kq1 J) (bqn (sqn (ereg (hadd J J (i64w (by omega)) (qp J (qk (kq8 J) (kq1 J) ?_))))))
 exact sub_l1 j T L K Ss b hb a nn M hM pp l hl2 c vB xs hx H hc hl u10 u11 (i + 1) (by omega) _ _ _ _ hA2 hX
termination_by xs.length - i
decreasing_by all_goals omega
theorem sub_l2 (j:RI) (T:Bool → Int → Bool) (L:Bool → List Int) (K:Nat) (Ss:Sg) (b:Nat) (hb:Off j b) (a:Node) (nn:Int) (M:NM) (hM:∀ w v x,M w v=some x → x.sz ≤ K) (pp:Bool → Int) (l:Int) (hl2:l ≤ 2 ^ 40) (c:Nat) (vA:AV) (xs:List Br) (hx:xs.length ≤ 2 ^ 30) (H:∀ d ∈ xs,SubBC j T L K d) (hc:∀ w,(L w).length + c + bBds xs ≤ 2 ^ 39) (hl:(cstBs K xs:Int) ≤ l + 2 ^ 61) (i:Nat) (hi:i ≤ xs.length) (zs:List Br) (vB:AV) (q:Bool → Int) (l':Int) {n:Nat} {v:Nat → Bool} {D:List (Nat × List AV)} {S:Sg} {Q:Ex → Fr → Prop} (hA:SB j T L K Ss b a nn vA M pp l c xs i zs vB q l' S)
 (hX:∀ k zs vB q l' S',SB j T L K Ss b a nn vA M pp l c xs xs.length zs vB q l' S' → Q (.exit 2) ⟨uv (uv (upd (uv (uv (uv (uv e0 124 (B false)) 123 (I k)) 122 (I (xs.map Br.enc).length)) 121 (SL 7 (xs.map Br.enc))) 4 (some (.loc 4 0))) 3 (.ptr b 0)) 0 (.ptr j.k 0),upd ((fun _=>none)) 4 (some ([I 0,I 0,I 0,.slice .full 5 [],.slice .full 7 []])),n,v,D,S'⟩):EX (callL p) (.loop F42_l2) ⟨uv (uv (upd (uv (uv (uv e0 123 (I i)) 122 (I (xs.map Br.enc).length)) 121 (SL 7 (xs.map Br.enc))) 4 (some (.loc 4 0))) 3 (.ptr b 0)) 0 (.ptr j.k 0),upd ((fun _=>none)) 4 (some ([I 0,I 0,I 0,.slice .full 5 [],.slice .full 7 []])),n,v,D,S⟩ Q:=by
 refine eloop (er (qp J (qb ?_)))
 rintro (_ | _) h1
 ·refine qn (kq7 J) (kq1 J) (eseq (ecF J (eexit (sqx ?_))))
  obtain rfl:i=xs.length:=by simp at h1;omega
  exact hX _ _ _ _ _ _ hA
 refine qn (kq7 J) (kq1 J) (eseq (ecT J (eskip (sqn (eseq (eblock (er ?_)))))))
 have hlt:i < xs.length:=by simpa using h1
 obtain ⟨d,hd⟩:=get_of_lt hlt
 refine hia (y:=.agg (ints d.vars :: bools d.co :: d.body.cs)) rfl rfl (by omega) (by simp [hd,Br.enc_eq]) rfl (W.hldR (y:=.agg (ints d.vars :: bools d.co :: d.body.cs)) rfl (.inl rfl) rfl (hal (dc (dc (dc (dc (dc (dc (dc (dc (dc dn rfl) rfl) rfl) rfl) rfl) rfl) rfl) rfl) rfl) (hstl rfl rfl rfl rfl (Nlb rfl) (lc rfl (lc rfl (lc rfl (lc rfl (lc rfl (lc rfl (lc rfl (ln rfl)))))))) (qk (kc rfl (kc rfl (kc rfl (kc rfl (kc rfl (kc rfl (kc rfl kn))))))) (kc rfl (kc rfl kn)) (sqn (ereg (qp rfl (hldoq rfl rfl hA.ob rfl ?_))))))))
 refine qp J (hlda J J (lq7 J) ?_)
 have ts:=take_snoc hd
 have tl:cstBs K (xs.take (i + 1)) + cstBs K (xs.drop (i + 1))=cstBs K xs:=by rw [← cstBs_app,List.take_append_drop]
 have tn:bBds (xs.take (i + 1)) + bBds (xs.drop (i + 1))=bBds xs:=by rw [← bBds_app,List.take_append_drop]
 have t1:cstBs K (xs.take (i + 1))=cstBs K (xs.take i) + cstB K d:=by rw [ts,cstBs_app];rfl
 have t2:bBds (xs.take (i + 1))=bBds (xs.take i) + bBd d:=by rw [ts,bBds_app];rfl
 have hlo:=hA.lo
 have hle:=hA.le
 refine hcallk rfl rfl rfl (H d (Lmg hd) _ M q l' (c + bBds (xs.take i)) hA.rn hA.po (fun w=>by have:=hc w;omega) hM (by omega) (by omega)) ?_ ?_
 ·rintro _ S1 ⟨z,q',l2,rfl,R1,P1,lo1,le1,su1,sz1,k1⟩
  exact ⟨.inl ⟨b,0,_,rfl,hA.ob,(k1.c.ob _ hA.bl hb.x).trans hA.ob⟩,k1.c.Q⟩
 rintro _ S1 ⟨z,q',l2,rfl,R1,P1,lo1,le1,su1,sz1,k1⟩
 have ob1:=(k1.c.ob _ hA.bl hb.x).trans hA.ob
 have we1:=we_mono hA.we (fun g hg=>k1.mu g (we_lt hA.we g hg)) k1.mn
 obtain ⟨g,S2,w1,w2,w3,w4,w5,w6,w7,w8,w9⟩:=acc_step (by_:=120) we1 (.agg [SL 1 [],SL 1 [],I 0,I 0,I 0,SL 5 [],SL 7 []]) z.enc rfl (by rw [Br.enc_eq];rfl) (by have:=hA.nl;rw [List.length_map];omega)
 rw [List.length_map] at w1 w6 w7 w8 w9
 refine W.hlenA J (we_len we1) ?_
 rw [show (zs.map Br.enc).length=zs.length from List.length_map ..]
 refine hbsl (q':=[(.agg [SL 1 [],SL 1 [],I 0,I 0,I 0,SL 5 [],SL 7 []])]) rfl rfl rfl (hwop rfl w1 (W.hiaR rfl rfl w9 (hsts (y:=z.enc) (cs':=flat (zs.map Br.enc ++ [z.enc])) rfl (by rw [Br.enc_eq];rfl) w3 (by rw [Br.enc_eq];rfl) w6 (by rw [show z.enc.erT=z.enc from by rw [Br.enc_eq];rfl];exact w7) (qp rfl (hsto2 (cs':=NodeRow a.op nn a.ty vA (.ms g 0 (zs.length + 1) 7)) rfl rfl ((congrFun w2.ob b).trans ob1) rfl (Nlb rfl) rfl ?_)))))
 have hA2:SB j T L K Ss b a nn vA M pp l c xs (i + 1) (zs ++ [z]) (.ms g 0 (zs.length + 1) 7) q' l2 _:=⟨R1.grow (g:=g) (x:=some (flat (zs.map Br.enc ++ [z.enc]))) (b:=b) (o:=.row (NodeRow a.op nn a.ty vA (.ms g 0 (zs.length + 1) 7))) w2 hb.k hb.t hb.i,by rw [t2,← Nat.add_assoc];exact P1,by omega,by omega,fun h=>by rw [ts];exact SubBs_snoc (hA.su (by omega)) (su1 h),by rw [List.length_append,hA.nl];rfl,by have:=hA.sz;rw [szBs_app,t1];simp only [szBs];omega,set_ob,by rw [List.map_append];exact w8,fun g' hg=>by rw [List.mem_singleton.1 hg];exact w4.elim (hA.tk g) fun e=>Nat.le_trans (Nat.le_trans hA.ch.mn k1.mn) e,grow hA.ch k1 w2 hA.tk w4,by show b < S2.nx;rw [w2.nx];exact Nat.lt_of_lt_of_le hA.bl k1.c.nx⟩
 refine qk (kq6 J) (kq1 J) (bqn (sqn (ereg (hadd J J (i64w (by omega)) (qp J (qk (kq6 J) (kq1 J) ?_))))))
 exact sub_l2 j T L K Ss b hb a nn M hM pp l hl2 c vA xs hx H hc hl (i + 1) (by omega) _ _ _ _ hA2 hX
termination_by xs.length - i
decreasing_by all_goals omega
end Go.Sim.Kd
namespace Go.Sim.Kd
open Go Go.Sim
theorem ereg_1 {c:Caller} {l:List AIns} {a:Nat} {k kl:List Nat} {E E1:Nat → Option TV} {L:Nat → Option (List AV)} {n:Nat} {v:Nat → Bool} {D:List (Nat × List AV)} {S:Sg} {Q:Ex → Fr → Prop}
 (h1:dropL a E=E1) (h:HL c l ⟨E1,upd L a none,n,v,D,S⟩ (KQ k kl Q)):EX c (.reg l [a] k kl) ⟨E,L,n,v,D,S⟩ Q:=by
 refine eregf ?_
 rw [← h1] at h
 exact h
theorem Pot.up {L:Bool → List Int} {p:Bool → Int} {c d:Nat} (h:Pot L p c) (k:c ≤ d):Pot L p d:=fun w=>⟨(h w).1,Int.le_trans (h w).2 (by omega)⟩
theorem kidsA_le (K:Nat) (a:Node):csts K (kidsA a) ≤ csts K a.args ∧ nBds (kidsA a) ≤ nBds a.args:=by
 unfold kidsA
 split
 ·exact ⟨Nat.zero_le _,Nat.zero_le _⟩
 exact ⟨Nat.le_refl _,Nat.le_refl _⟩
theorem kidsB_le (K:Nat) (a:Node):cstBs K (kidsB a) ≤ cstBs K a.brs ∧ bBds (kidsB a) ≤ bBds a.brs:=by
 unfold kidsB
 split
 ·exact ⟨Nat.zero_le _,Nat.zero_le _⟩
 exact ⟨Nat.le_refl _,Nat.le_refl _⟩
theorem frz_two {op n ty:Int} {vA vB:AV} {as:List Node} {bs:List Br} {S:Sg} (hA:W.WE 5 vA (as.map Node.enc) S) (hB:W.WE 7 vB (bs.map Br.enc) S) (hd:∀ g ∈ W.tk vB,g ∉ W.tk vA) :
 ∃ oA oB m,frzDL (frzD 1) S (NodeRow op n ty vA vB)=some ([I op,I n,I ty,.slice oA 5 (as.map Node.enc),.slice oB 7 (bs.map Br.enc)],{ S with mu:=m }) ∧ ∀ g,g ∉ W.tk vA → g ∉ W.tk vB → m g=S.mu g:=by
 obtain ⟨oA,mA,a1,a2⟩:=frz_we (by decide) (by decide) hA (enc_els as)
 have hB2:W.WE 7 vB (bs.map Br.enc) { S with mu:=mA }:=we_mono hB (fun g hg=>a2 g (hd g hg)) (Nat.le_refl _)
 obtain ⟨oB,mB,b1,b2⟩:=frz_we (by decide) (by decide) hB2 (encb_els bs)
 refine ⟨oA,oB,mB,?_,fun g h1 h2=>(b2 g h2).trans (a2 g h1)⟩
 have e:∀ (S:Sg) (x:Int),frzD 1 S (I x)=some (I x,S):=fun S x=>by simp only [I,frzD]
 simp only [NodeRow,frzDL,e,a1,b1,Obs]
theorem cp_sz (a:Node):(cpN a).sz ≤ a.sz:=by
 induction a using Node.ind with
 | h a ih1 ih2 =>
   have e:∀ x:Node,x.sz=1 + szNs x.args + szBs x.brs:=fun x=>by cases x;simp only [Node.sz,Node.args,Node.brs]
   obtain ⟨_,_,_,e4,e5⟩:=cpN_parts a
   rw [e (cpN a),e a,e4,e5]
   have h1:∀ l:List Node,(∀ b ∈ l,(cpN b).sz ≤ b.sz) → szNs (l.map cpN) ≤ szNs l:=fun l=>by
    induction l with
    | nil=>exact fun _=>Nat.le_refl _
    | cons b l ih =>
      intro h
      have:=h b (by simp)
      have:=ih fun c hc=>h c (by simp [hc])
      simp only [List.map_cons,szNs]
      omega
   have h2:∀ l:List Br,(∀ b ∈ l,(cpN b.body).sz ≤ b.body.sz) → szBs (l.map cpB) ≤ szBs l:=fun l=>by
    induction l with
    | nil=>exact fun _=>Nat.le_refl _
    | cons b l ih =>
      intro h
      have h3:=h b (by simp)
      have:=ih fun c hc=>h c (by simp [hc])
      have e3:(cpB b).sz ≤ b.sz:=by
       rw [cpB_eq]
       conv=>rhs;rw [← Br.eta b]
       simp only [Br.sz]
       omega
      simp only [List.map_cons,szBs]
      omega
   have k1:=h1 (kidsA a) fun b hb=>ih1 b (kidsA_sub a b hb)
   have k2:=h2 (kidsB a) fun b hb=>ih2 b (kidsB_sub a b hb)
   have k3:szNs (kidsA a) ≤ szNs a.args:=by unfold kidsA;split;exact Nat.zero_le _;exact Nat.le_refl _
   have k4:szBs (kidsB a) ≤ szBs a.brs:=by unfold kidsB;split;exact Nat.zero_le _;exact Nat.le_refl _
   omega
theorem sa_init {j:RI} {T:Bool → Int → Bool} {L:Bool → List Int} {K:Nat} {S:Sg} {b:Nat} {a:Node} {nn:Int} {vB:AV} {M:NM} {pp:Bool → Int} {l:Int} {c:Nat} {xs:List Node} (hR:RN j T pp l M S) (hP:Pot L pp c) (ob:S.ob b=some (.row (NodeRow a.op nn a.ty (.slice .full 5 []) vB))) (hb:b < S.nx) :
 SA j T L K S b a nn vB M pp l c xs 0 [] (.slice .full 5 []) pp l S :=
 ⟨hR,by simpa [nBds] using hP,by simp [csts],Int.le_refl _,fun _=>by rw [List.take_zero];exact SubNs_nil.2 ⟨rfl,rfl⟩,rfl,Nat.zero_le _,ob,⟨rfl,.inl ⟨rfl,rfl⟩⟩,fun g hg=>(by cases hg),Ch.refl _,hb⟩
theorem sb_init {j:RI} {T:Bool → Int → Bool} {L:Bool → List Int} {K:Nat} {S:Sg} {b:Nat} {a:Node} {nn:Int} {vA:AV} {M:NM} {pp:Bool → Int} {l:Int} {c:Nat} {xs:List Br} (hR:RN j T pp l M S) (hP:Pot L pp c) (ob:S.ob b=some (.row (NodeRow a.op nn a.ty vA (.slice .full 7 [])))) (hb:b < S.nx) :
 SB j T L K S b a nn vA M pp l c xs 0 [] (.slice .full 7 []) pp l S :=
 ⟨hR,by simpa [bBds] using hP,by simp [cstBs],Int.le_refl _,fun _=>by rw [List.take_zero];exact SubBs_nil.2 ⟨rfl,rfl⟩,rfl,Nat.zero_le _,ob,⟨rfl,.inl ⟨rfl,rfl⟩⟩,fun g hg=>(by cases hg),Ch.refl _,hb⟩
theorem RN.obj {j:RI} {T:Bool → Int → Bool} {p:Bool → Int} {l:Int} {M:NM} {S:Sg} (h:RN j T p l M S) {b:Nat} (hb:Off j b) (o:AObj):RN j T p l M (S.set b o) :=
 h.keep (Y:=fun i=>i=b) ((Chg.refl S).set fun _=>rfl) (fun e=>hb.k e.symm) (fun w e=>hb.t w e.symm) (fun w e=>hb.i w e.symm)
theorem sub_gen {T:Bool → Int → Bool} {a:Node} {M:NM} {pp q r:Bool → Int} {zs:List Node} {ws:List Br} (h3:a.op ≠ 3) (h7:a.op ≠ 7) (hn:a.op=0 ∨ a.op=5 → M (decide (a.op=5)) a.n=none) (hA:SubNs T (kidsA a) M pp zs q) (hB:SubBs T (kidsB a) M q ws r):SubN T a M pp (.mk a.op a.n a.ty zs ws) r:=by
 rw [SubN_eq]
 unfold kidsA at hA
 unfold kidsB at hB
 by_cases hl:leafOp a.op=true
 ·rw [if_pos hl] at hA hB
  obtain ⟨rfl,rfl⟩:=SubNs_nil.1 hA
  obtain ⟨rfl,rfl⟩:=SubBs_nil.1 hB
  by_cases h0:a.op=0 ∨ a.op=5
  ·rw [if_pos h0,hn h0]
   exact ⟨rfl,rfl⟩
  have h1:a.op=1:=by
   simp only [leafOp,Bool.or_eq_true,Dte,beq_iff_eq] at hl
   omega
  rw [if_neg h0,if_pos h1]
  exact ⟨rfl,rfl⟩
 rw [if_neg hl] at hA hB
 have h0:¬ (a.op=0 ∨ a.op=5):=fun e=>hl (by rcases e with e | e <;> rw [e] <;> rfl)
 have h1:¬ a.op=1:=fun e=>hl (by rw [e];rfl)
 rw [if_neg h0,if_neg h1,if_neg fun e=>e.elim h3 h7]
 exact ⟨zs,q,ws,hA,hB,rfl⟩
theorem sub_bnd {T:Bool → Int → Bool} {a:Node} {M:NM} {pp q1 q r:Bool → Int} {x:Int} {zs:List Node} {ws:List Br} (h:a.op=3 ∨ a.op=7) (fx:FrS T pp (decide (a.op=3)) x q1) (hA:SubNs T (kidsA a) (putG M (decide (a.op=3)) a.n (some (varN (decide (a.op=3)) x))) q1 zs q) (hB:SubBs T (kidsB a) M q ws r):SubN T a M pp (.mk a.op x a.ty zs ws) r:=by
 rw [SubN_eq]
 have hl:¬ leafOp a.op=true:=by rcases h with e | e <;> rw [e] <;> decide
 unfold kidsA at hA
 unfold kidsB at hB
 rw [if_neg hl] at hA hB
 rw [if_neg (by omega),if_neg (by omega),if_pos h]
 exact ⟨x,q1,zs,q,ws,fx,hA,hB,rfl⟩
theorem sub_hit {T:Bool → Int → Bool} {a x:Node} {M:NM} {pp:Bool → Int} {w:Bool} (h:a.op=0 ∨ a.op=5) (hw:w=decide (a.op=5)) (hx:M w a.n=some x):SubN T a M pp (cpN x) pp:=by
 rw [SubN_eq,if_pos h,← hw,hx]
 exact ⟨rfl,rfl⟩
theorem sub_end {j:RI} {T:Bool → Int → Bool} {L:Bool → List Int} {K:Nat} {s S3 S6 S7 S8:Sg} {a:Node} {nn:Int} {vA vB vb:AV} {M M1:NM} {pp p1 q2 q3:Bool → Int} {l l2 l3:Int} {c d:Nat} {zs:List Node} {ws:List Br} {oA oB:Own} {mz:Nat → Option (List AV)} (hK:1 ≤ K) (off:Off j s.nx) (hd:d + nBds a.args + bBds a.brs ≤ nBd a) (k3:Ch j.X s S3)
 (hA:SA j T L K S3 s.nx a nn vb M1 p1 (l - 1) (c + d) (kidsA a) (kidsA a).length zs vA q2 l2 S6) (k7:Ch (fun i=>i=j.i0 ∨ i=j.i1) S6 S7) (hB:SB j T L K S7 s.nx a nn vA M q2 l2 (c + d + nBds ((kidsA a).take (kidsA a).length)) (kidsB a) (kidsB a).length ws vB q3 l3 S8)
 (z2:∀ g,g ∉ W.tk vA → g ∉ W.tk vB → mz g=S8.mu g) (hs:SubNs T (kidsA a) M1 p1 zs q2 → SubBs T (kidsB a) M q2 ws q3 → SubN T a M pp (.mk a.op nn a.ty zs ws) q3) :
 ∃ z q l',AV.ers [.agg (List.take 5 (List.drop 0 [I a.op,I nn,I a.ty,.slice oA 5 (zs.map Node.enc),.slice oB 7 (ws.map Br.enc)]))]=[.agg z.cs] ∧ RN j T q l' M { S8 with mu:=mz } ∧ Pot L q (c + nBd a) ∧ l - cst K a ≤ l' ∧ l' ≤ l ∧ (0 ≤ l' → SubN T a M pp z q) ∧ z.sz ≤ cst K a ∧ Ch j.X s { S8 with mu:=mz }:=by
 have hce:=cst_eq K a
 obtain ⟨kA1,kA2⟩:=kidsA_le K a
 obtain ⟨kB1,kB2⟩:=kidsB_le K a
 have t1:(kidsA a).take (kidsA a).length=kidsA a:=List.take_of_length_le (Nat.le_refl _)
 have t2:(kidsB a).take (kidsB a).length=kidsB a:=List.take_of_length_le (Nat.le_refl _)
 have a1:=hA.lo
 have a2:=hA.le
 have a3:=hA.su
 have a4:=hA.sz
 have b1:=hB.lo
 have b2:=hB.le
 have b3:=hB.su
 have b4:=hB.sz
 have b5:=hB.po
 rw [t1] at a1 a3 a4 b5
 rw [t2] at b1 b3 b4 b5
 have kk:=((k3.mono (Y:=fun i=>j.X i ∨ i=s.nx) fun _ _ e=>.inl e).trans (hA.ch.trans ((k7.mono (Y:=fun i=>j.X i ∨ i=s.nx) fun _ _ e=>.inl (.inr e)).trans hB.ch)))
 have kx:Ch j.X s S8:=kk.mono fun i hi e=>e.elim id fun e=>absurd hi (by omega)
 refine ⟨.mk a.op nn a.ty zs ws,q3,l3,rfl,?_,b5.up (by omega),by omega,by omega,fun h=>hs (a3 (by omega)) (b3 h),?_,?_⟩
 ·exact hB.rn.keep (Y:=fun _=>False) (S':={ S8 with mu:=mz }) ⟨Nat.le_refl _,fun _ _ _=>rfl,Nat.le_refl _,fun _ _=>rfl,rfl⟩ id (fun _=>id) (fun _=>id)
 ·simp only [Node.sz]
  omega
 refine ⟨⟨kx.c.nx,kx.c.ob,kx.c.gn,kx.c.gl,kx.c.Q⟩,kx.mn,fun g hg=>(z2 g ?_ ?_).trans (kx.mu g hg)⟩
 ·intro h
  have:=hA.tk g h
  have:=k3.mn
  omega
 intro h
 have:=hB.tk g h
 have:=k3.mn
 have:=hA.ch.mn
 have:=k7.mn
 omega
theorem sub_c0 (j:RI) (T:Bool → Int → Bool) (L:Bool → List Int) (hL:∀ w x,T w x=true → x ∈ L w) (K:Nat) (hK:1 ≤ K) (hK2:K ≤ 2 ^ 40) (a:Node) (hz:a.sz ≤ 2 ^ 30) (H1:∀ b ∈ a.args,SubC j T L K b) (H2:∀ b ∈ a.brs,SubBC j T L K b) (s:Sg) (M:NM) (pp:Bool → Int) (l:Int) (c:Nat) (hR:RN j T pp l M s) (hP:Pot L pp c) (hc:∀ w,(L w).length + c + nBd a ≤ 2 ^ 39) (hM:∀ w v x,M w v=some x → x.sz ≤ K) (hl:(cst K a:Int) ≤ l + 2 ^ 61) (hl2:l ≤ 2 ^ 40):HC p N42_ [.ptr j.k 0,.agg a.cs] s (fun r s'=>∃ z q l',r=[.agg z.cs] ∧ RN j T q l' M s' ∧ Pot L q (c + nBd a) ∧ l - cst K a ≤ l' ∧ l' ≤ l ∧ (0 ≤ l' → SubN T a M pp z q) ∧ z.sz ≤ cst K a ∧ Ch j.X s s'):=by
 have hce:=cst_eq K a
 have hbd:=nBd_eq a
 obtain ⟨kA1,kA2⟩:=kidsA_le K a
 obtain ⟨kB1,kB2⟩:=kidsB_le K a
 have kAl:=kidsA_len a
 have kBl:=kidsB_len a
 have hkl:=hR.kl
 have htl:=hR.tl
 have hil:=hR.il
 have off:Off j s.nx:=⟨by omega,fun w=>by have:=htl w;omega,fun w=>by have:=hil w;omega⟩
 have nX:∀ i,s.nx ≤ i → ¬ j.X i:=fun i hi h=>by
  have h0:=hil false
  have h1:=hil true
  simp only [RI.i,Bool.false_eq_true,if_false,if_true] at h0 h1
  rcases h with h | h | h <;> omega
 have hfin:∀ q z l' s',0 ≤ q → l'=l - q → q ≤ (cst K a:Int) → l' < 0 → RN j T pp l' M s' → Ch j.X s s' → z=z0 → ∃ z' q' l'',[AV.agg z.cs]=[AV.agg z'.cs] ∧ RN j T q' l'' M s' ∧ Pot L q' (c + nBd a) ∧ l - cst K a ≤ l'' ∧ l'' ≤ l ∧ (0 ≤ l'' → SubN T a M pp z' q') ∧ z'.sz ≤ cst K a ∧ Ch j.X s s':=fun q z l' s' h0 h1 h2 h3 h4 h5 h6 =>
  ⟨z,pp,l',rfl,h4,hP.up (by omega),by omega,by omega,fun h=>by omega,by rw [h6,hce];simp only [z0,Node.sz,szNs,szBs];omega,h5⟩
 refine hcf J f42_ J ?_
 simp only [chainOf]
 refine eseq (ereg (hboxo (y:=.agg a.cs) (cs:=NodeRow a.op a.n a.ty (SL 5 (a.args.map Node.enc)) (SL 7 (a.brs.map Br.enc))) rfl rfl ?_))
 have b1:(s.new (.row (NodeRow a.op a.n a.ty (SL 5 (a.args.map Node.enc)) (SL 7 (a.brs.map Br.enc))))).ob s.nx=some (.row (NodeRow a.op a.n a.ty (SL 5 (a.args.map Node.enc)) (SL 7 (a.brs.map Br.enc)))):=new_ob
 have k0:Ch j.X s (s.new (.row (NodeRow a.op a.n a.ty (SL 5 (a.args.map Node.enc)) (SL 7 (a.brs.map Br.enc))))):=⟨Chg.new (Chg.refl s),Nat.le_refl _,fun _ _=>rfl⟩
 have R0:=hR.keep (Y:=fun _=>False) (S':=s.new (.row (NodeRow a.op a.n a.ty (SL 5 (a.args.map Node.enc)) (SL 7 (a.brs.map Br.enc))))) (Chg.new (Chg.refl s)) id (fun _=>id) (fun _=>id)
 generalize hS0:s.new (.row (NodeRow a.op a.n a.ty (SL 5 (a.args.map Node.enc)) (SL 7 (a.brs.map Br.enc))))=S0 at b1 k0 R0 ⊢
 have x0:S0.nx=s.nx + 1:=by rw [← hS0];rfl
 refine hal (dc (dc (dc dn rfl) rfl) rfl) (qk (kc rfl (kc rfl (kc rfl kn))) (kc rfl kn) (sqn (eseq (eseq (ereg (qp rfl (hldo (y:=I a.op) rfl b1 rfl ?_)))))))
 refine qp J (qb ?_)
 rintro (_ | _) h1
 refine qp rfl (qg rfl (qp rfl (qg rfl (hldo (y:=I a.op) rfl b1 rfl ?_))))
 refine qg J (qp J (qb ?_))
 rintro (_ | _) h2
 refine qp rfl (qk (kc rfl (kc rfl (kc rfl (kc rfl kn)))) (kc rfl kn) (sqn (ecF rfl (eskip (sqn (eseq (eseq (ereg (qp rfl (qp rfl (qp rfl (hldo (y:=I l) rfl R0.hk rfl ?_))))))))))))
 refine hsub (r:=l - 1) rfl rfl (i64w (by omega)) (qp rfl (qp rfl (hsto (cs':=j.row pp (l - 1)) rfl rfl R0.hk rfl (Nlb rfl) (by simp) rfl ?_)))
 have R2:=R0.row (p':=pp) (l':=l - 1)
 have k2:=k0.set (i:=j.k) (fun _=>.inl rfl) (.row (j.row pp (l - 1)))
 have b2:(S0.set j.k (.row (j.row pp (l - 1)))).ob s.nx=_:=(set_ne off.k).trans b1
 generalize hS2:S0.set j.k (.row (j.row pp (l - 1)))=S2 at R2 k2 b2 ⊢
 have x2:S2.nx=s.nx + 1:=by rw [← hS2];exact x0
 refine qk (kc rfl (kc rfl (kc rfl kn))) (kc rfl kn) (sqn (eseq (ereg (qp rfl (qp rfl (qp rfl (hldo (y:=I (l - 1)) rfl R2.hk rfl ?_)))))))
 refine qp J (qb ?_)
 rintro (_ | _) h3
 refine qk (kc rfl (kc rfl (kc rfl (kc rfl kn)))) (kc rfl kn) (sqn (ecF rfl (eskip (sqn (eseq (ereg (hldo (y:=.agg a.cs) rfl b2 rfl ?_)))))))
 refine hcall J J J (children_c _ _) ?_
 rintro _ _ ⟨rfl,hq⟩
 obtain rfl:=hq.symm
 refine qp rfl (qp rfl (qp rfl (qp rfl (qp rfl (qk (kc rfl (kc rfl (kc rfl (kc rfl (kc rfl kn))))) (kc rfl kn) (sqn (eseq (ereg (qp rfl (hsto (cs':=NodeRow a.op a.n a.ty (.slice .full 5 []) (SL 7 (a.brs.map Br.enc))) rfl rfl b2 rfl (Nlb rfl) (by simp) rfl (qp rfl (hsto (cs':=NodeRow a.op a.n a.ty (.slice .full 5 []) (.slice .full 7 [])) rfl rfl set_ob rfl (Nlb rfl) (by simp) rfl ?_))))))))))))
 have R3:=(R2.obj off (.row (NodeRow a.op a.n a.ty (.slice .full 5 []) (SL 7 (a.brs.map Br.enc))))).obj off (.row (NodeRow a.op a.n a.ty (.slice .full 5 []) (.slice .full 7 [])))
 have k3:=(k2.set (i:=s.nx) (fun h=>absurd h (Nat.lt_irrefl _)) (.row (NodeRow a.op a.n a.ty (.slice .full 5 []) (SL 7 (a.brs.map Br.enc))))).set (i:=s.nx) (fun h=>absurd h (Nat.lt_irrefl _)) (.row (NodeRow a.op a.n a.ty (.slice .full 5 []) (.slice .full 7 [])))
 have b3:((S2.set s.nx (.row (NodeRow a.op a.n a.ty (.slice .full 5 []) (SL 7 (a.brs.map Br.enc))))).set s.nx (.row (NodeRow a.op a.n a.ty (.slice .full 5 []) (.slice .full 7 [])))).ob s.nx=some (.row (NodeRow a.op a.n a.ty (.slice .full 5 []) (.slice .full 7 []))):=set_ob
 generalize hS3:(S2.set s.nx (.row (NodeRow a.op a.n a.ty (.slice .full 5 []) (SL 7 (a.brs.map Br.enc))))).set s.nx (.row (NodeRow a.op a.n a.ty (.slice .full 5 []) (.slice .full 7 [])))=S3 at R3 k3 b3 ⊢
 have x3:S3.nx=s.nx + 1:=by rw [← hS3];exact x2
 have sb0:=sa_init (K:=K) (xs:=kidsA a) R3 hP b3 (by omega)
 refine qk (kc rfl (kc rfl (kc rfl (kc rfl (kc rfl kn))))) (kc rfl kn) (sqn (eseq (ereg (qp rfl (qk (kc rfl (kc rfl (kc rfl (kc rfl (kc rfl (kc rfl kn)))))) (kc rfl kn) (sqn (eseq (eseq (ereg (qp rfl (hldo (y:=I a.op) rfl b3 rfl ?_)))))))))))
 refine qp J (qb ?_)
 rintro (_ | _) h4
 refine qp rfl (qg rfl (qp rfl (qg rfl (hldo (y:=I a.op) rfl b3 rfl ?_))))
 refine qg J (qp J (qb ?_))
 rintro (_ | _) h5
 refine qp J (qn (kq7 J) (kq1 J) (ecF J (eskip (sqn (eseq (er (pq3 J (qn (kq8 J) (kq1 J) (eblock ?_)))))))))
 first
 | refine sub_l1 j T L K _ s.nx off a x _ (fun w v y hy=>by
    unfold putG at hy
    split at hy
    ·cases hy;exact hK
    exact hM w v y hy) _ (l - 1) (by omega) _ (.slice .full 7 []) (kidsA a) (by omega) (fun d hd=>H1 d (kidsA_sub a d hd)) (fun w=>by have:=hc w;rw [hbd,if_pos hob] at this;simp only [List.length_singleton];omega) (by omega) _ _ 0 (Nat.zero_le _) [] (.slice .full 5 []) _ (l - 1) sa0 ?_
 | refine sub_l1 j T L K _ s.nx off a a.n M hM pp (l - 1) (by omega) c (.slice .full 7 []) (kidsA a) (by omega) (fun d hd=>H1 d (kidsA_sub a d hd)) (fun w=>by have:=hc w;omega) (by omega) _ _ 0 (Nat.zero_le _) [] (.slice .full 5 []) pp (l - 1) sb0 ?_
 intro k1 zs vA q2 l2 S6 hA
 refine bqx (sqn (er (qp J ?_)))
 first
 | (refine hcall rfl rfl rfl (undn_c _ j T q2 l2 b4 b8 ad (by rw [al];simp) _ hA.rn (ub5.keep hA.ch.c (fun e=>e.elim (nX _ (by omega)) (by omega)) (fun e=>e.elim (nX _ (by omega)) (by omega)))) ?_
    rintro _ S7 ⟨rfl,R7,k7⟩
    rw [ud] at R7)
 | (refine hcall rfl rfl rfl (suc1_c _) ?_
    rintro _ _ ⟨rfl,hq⟩
    obtain rfl:=hq.symm
    have R7:=hA.rn
    have k7:Ch (fun i=>i=j.i0 ∨ i=j.i1) S6 S6:=Ch.refl _)
 have o7:=(k7.c.ob _ hA.bl (fun e=>nX _ (Nat.le_refl _) (.inr e))).trans hA.ob
 have sb1:=sb_init (K:=K) (xs:=kidsB a) R7 hA.po o7 (Nat.lt_of_lt_of_le hA.bl k7.c.nx)
 refine qn (kq4 J) (kq1 J) (eseq (er (pq3 J (qn (kq6 J) (kq1 J) (eblock ?_)))))
 have hAlo:=hA.lo
 have hAle:=hA.le
 rw [List.take_of_length_le (Nat.le_refl _)] at hAlo
 refine sub_l2 j T L K _ s.nx off a _ M hM q2 l2 (by omega) _ vA (kidsB a) (by omega) (fun d hd=>H2 d (kidsB_sub a d hd)) (fun w=>by
  have:=hc w
  rw [List.take_of_length_le (Nat.le_refl _)]
  first
  | (rw [hbd,if_pos hob] at this;simp only [List.length_singleton];omega)
  | omega) (by omega) 0 (Nat.zero_le _) [] (.slice .full 7 []) q2 l2 sb1 ?_
 intro k2 ws vB q3 l3 S8 hB
 refine bqx (sqn (eseq (ereg (hldo rfl hB.ob (y:=.agg _) rfl ?_))))
 refine hstl J J J J (Nlb J) (lq5 J) (qn (kq1 J) (kq1 J) ?_)
 first
 | refine eretz_loc rfl rfl ?_
 | (have we8:W.WE 5 vA (zs.map Node.enc) S8:=we_mono hA.we (fun g hg=>(hB.ch.mu g (Nat.lt_of_lt_of_le (we_lt hA.we g hg) k7.mn)).trans (k7.mu g (we_lt hA.we g hg))) (Nat.le_trans k7.mn hB.ch.mn)
    obtain ⟨oA,oB,mz,z1,z2⟩:=frz_two (op:=a.op) (ty:=a.ty) we8 hB.we (fun g hg hg2=>by have:=hB.tk g hg;have:=we_lt hA.we g hg2;have:=k7.mn;omega)
    refine eretz_loc rfl z1 ?_)
 refine fqr J ?_
 rotate_left
 refine qp J (qn (kq7 J) (kq1 J) (ecT J (er (qp J (qn (kq5 J) (kq1 J) (er (pq2 J ?_)))))))
 have hob:a.op=3 ∨ a.op=7:=by
  first
  | (refine .inl (Odt ?_);assumption)
  | (refine .inr (Odt ?_);assumption)
 refine hldo (y:=I a.n) rfl b3 rfl ?_
 refine hbsl J J (lq1 J) (qp J ?_)
 refine hcall rfl rfl rfl (under_c S3 j T L hL (l - 1) c M pp [a.n] [decide (a.op=3)] (by simp) (fun w=>by have:=hc w;rw [hbd,if_pos hob] at this;simp only [List.length_singleton];omega) (by simp) N65_ s.nx _ b3 (by omega) (nX _ (Nat.le_refl _)) (fun i d S' hd hx=>by
  cases i with
  | zero =>
    cases hd
    exact suc2_c S' _ _ _ _ _ _ hx _
  | succ i=>simp at hd) R3 hP) ?_
 rintro _ S4 ⟨names,M1,q1,b4,b8,ad,rfl,un,R4,P4,ud,al,nl,ub,k4,g3,g8⟩
 rw [Und] at un
 obtain ⟨x,p1,names',fx,rfl,un⟩:=un
 rw [Und] at un
 obtain ⟨rfl,rfl,rfl⟩:=un
 have o4:=(k4.c.ob _ (by omega) (nX _ (Nat.le_refl _))).trans b3
 have x4:=k4.c.nx
 refine qp rfl (qp rfl (qp rfl (qp rfl (qp rfl (qk (kc rfl (kc rfl (kc rfl (kc rfl (kc rfl (kc rfl (kc rfl kn))))))) (kc rfl kn) (sqn (ereg (qp rfl (hia (y:=I x) rfl rfl (by omega) rfl rfl (W.hldR (y:=I x) rfl (.inl rfl) rfl (qp rfl (hsto (cs':=NodeRow a.op x a.ty (.slice .full 5 []) (.slice .full 7 [])) rfl rfl o4 rfl (Nlb rfl) (by simp) rfl ?_))))))))))))
 have R5:=R4.obj off (.row (NodeRow a.op x a.ty (.slice .full 5 []) (.slice .full 7 [])))
 have k5:=(k3.trans k4).set (i:=s.nx) (fun h=>absurd h (Nat.lt_irrefl _)) (.row (NodeRow a.op x a.ty (.slice .full 5 []) (.slice .full 7 [])))
 have ub5:=ub.keep (Y:=fun i=>i=s.nx) ((Chg.refl S4).set (i:=s.nx) (o:=.row (NodeRow a.op x a.ty (.slice .full 5 []) (.slice .full 7 []))) fun _=>rfl) (by omega) (by omega)
 have sa0:=sa_init (K:=K) (xs:=kidsA a) (vB:=.slice .full 7 []) R5 P4 set_ob (by show s.nx < S4.nx;omega)
 refine qn (kq6 J) (kq1 J) (eseq (er (pq3 J (qn (kq8 J) (kq1 J) (eblock ?_)))))
 first
 | refine sub_l1 j T L K _ s.nx off a x _ (fun w v y hy=>by
    unfold putG at hy
    split at hy
    ·cases hy;exact hK
    exact hM w v y hy) _ (l - 1) (by omega) _ (.slice .full 7 []) (kidsA a) (by omega) (fun d hd=>H1 d (kidsA_sub a d hd)) (fun w=>by have:=hc w;rw [hbd,if_pos hob] at this;simp only [List.length_singleton];omega) (by omega) _ _ 0 (Nat.zero_le _) [] (.slice .full 5 []) _ (l - 1) sa0 ?_
 | refine sub_l1 j T L K _ s.nx off a a.n M hM pp (l - 1) (by omega) c (.slice .full 7 []) (kidsA a) (by omega) (fun d hd=>H1 d (kidsA_sub a d hd)) (fun w=>by have:=hc w;omega) (by omega) _ _ 0 (Nat.zero_le _) [] (.slice .full 5 []) pp (l - 1) sb0 ?_
 intro k1 zs vA q2 l2 S6 hA
 refine bqx (sqn (er (qp J ?_)))
 first
 | (refine hcall rfl rfl rfl (undn_c _ j T q2 l2 b4 b8 ad (by rw [al];simp) _ hA.rn (ub5.keep hA.ch.c (fun e=>e.elim (nX _ (by omega)) (by omega)) (fun e=>e.elim (nX _ (by omega)) (by omega)))) ?_
    rintro _ S7 ⟨rfl,R7,k7⟩
    rw [ud] at R7)
 | (refine hcall rfl rfl rfl (suc1_c _) ?_
    rintro _ _ ⟨rfl,hq⟩
    obtain rfl:=hq.symm
    have R7:=hA.rn
    have k7:Ch (fun i=>i=j.i0 ∨ i=j.i1) S6 S6:=Ch.refl _)
 have o7:=(k7.c.ob _ hA.bl (fun e=>nX _ (Nat.le_refl _) (.inr e))).trans hA.ob
 have sb1:=sb_init (K:=K) (xs:=kidsB a) R7 hA.po o7 (Nat.lt_of_lt_of_le hA.bl k7.c.nx)
 refine qn (kq4 J) (kq1 J) (eseq (er (pq3 J (qn (kq6 J) (kq1 J) (eblock ?_)))))
 have hAlo:=hA.lo
 have hAle:=hA.le
 rw [List.take_of_length_le (Nat.le_refl _)] at hAlo
 refine sub_l2 j T L K _ s.nx off a _ M hM q2 l2 (by omega) _ vA (kidsB a) (by omega) (fun d hd=>H2 d (kidsB_sub a d hd)) (fun w=>by
  have:=hc w
  rw [List.take_of_length_le (Nat.le_refl _)]
  first
  | (rw [hbd,if_pos hob] at this;simp only [List.length_singleton];omega)
  | omega) (by omega) 0 (Nat.zero_le _) [] (.slice .full 7 []) q2 l2 sb1 ?_
 intro k2 ws vB q3 l3 S8 hB
 refine bqx (sqn (eseq (ereg (hldo rfl hB.ob (y:=.agg _) rfl ?_))))
 refine hstl J J J J (Nlb J) (lq5 J) (qn (kq1 J) (kq1 J) ?_)
 first
 | refine eretz_loc rfl rfl ?_
 | (have we8:W.WE 5 vA (zs.map Node.enc) S8:=we_mono hA.we (fun g hg=>(hB.ch.mu g (Nat.lt_of_lt_of_le (we_lt hA.we g hg) k7.mn)).trans (k7.mu g (we_lt hA.we g hg))) (Nat.le_trans k7.mn hB.ch.mn)
    obtain ⟨oA,oB,mz,z1,z2⟩:=frz_two (op:=a.op) (ty:=a.ty) we8 hB.we (fun g hg hg2=>by have:=hB.tk g hg;have:=we_lt hA.we g hg2;have:=k7.mn;omega)
    refine eretz_loc rfl z1 ?_)
 refine fqr J ?_
 rotate_left
 refine qp J (zq3 J (qp J (qn (kq7 J) (kq1 J) (ecT J (er (qp J (qn (kq5 J) (kq1 J) (er (pq2 J ?_)))))))))
 have hob:a.op=3 ∨ a.op=7:=by
  first
  | (refine .inl (Odt ?_);assumption)
  | (refine .inr (Odt ?_);assumption)
 refine hldo (y:=I a.n) rfl b3 rfl ?_
 refine hbsl J J (lq1 J) (qp J ?_)
 refine hcall rfl rfl rfl (under_c S3 j T L hL (l - 1) c M pp [a.n] [decide (a.op=3)] (by simp) (fun w=>by have:=hc w;rw [hbd,if_pos hob] at this;simp only [List.length_singleton];omega) (by simp) N65_ s.nx _ b3 (by omega) (nX _ (Nat.le_refl _)) (fun i d S' hd hx=>by
  cases i with
  | zero =>
    cases hd
    exact suc2_c S' _ _ _ _ _ _ hx _
  | succ i=>simp at hd) R3 hP) ?_
 rintro _ S4 ⟨names,M1,q1,b4,b8,ad,rfl,un,R4,P4,ud,al,nl,ub,k4,g3,g8⟩
 rw [Und] at un
 obtain ⟨x,p1,names',fx,rfl,un⟩:=un
 rw [Und] at un
 obtain ⟨rfl,rfl,rfl⟩:=un
 have o4:=(k4.c.ob _ (by omega) (nX _ (Nat.le_refl _))).trans b3
 have x4:=k4.c.nx
 refine qp rfl (qp rfl (qp rfl (qp rfl (qp rfl (qk (kc rfl (kc rfl (kc rfl (kc rfl (kc rfl (kc rfl (kc rfl kn))))))) (kc rfl kn) (sqn (ereg (qp rfl (hia (y:=I x) rfl rfl (by omega) rfl rfl (W.hldR (y:=I x) rfl (.inl rfl) rfl (qp rfl (hsto (cs':=NodeRow a.op x a.ty (.slice .full 5 []) (.slice .full 7 [])) rfl rfl o4 rfl (Nlb rfl) (by simp) rfl ?_))))))))))))
 have R5:=R4.obj off (.row (NodeRow a.op x a.ty (.slice .full 5 []) (.slice .full 7 [])))
 have k5:=(k3.trans k4).set (i:=s.nx) (fun h=>absurd h (Nat.lt_irrefl _)) (.row (NodeRow a.op x a.ty (.slice .full 5 []) (.slice .full 7 [])))
 have ub5:=ub.keep (Y:=fun i=>i=s.nx) ((Chg.refl S4).set (i:=s.nx) (o:=.row (NodeRow a.op x a.ty (.slice .full 5 []) (.slice .full 7 []))) fun _=>rfl) (by omega) (by omega)
 have sa0:=sa_init (K:=K) (xs:=kidsA a) (vB:=.slice .full 7 []) R5 P4 set_ob (by show s.nx < S4.nx;omega)
 refine qn (kq6 J) (kq1 J) (eseq (er (pq3 J (qn (kq8 J) (kq1 J) (eblock ?_)))))
 first
 | refine sub_l1 j T L K _ s.nx off a x _ (fun w v y hy=>by
    unfold putG at hy
    split at hy
    ·cases hy;exact hK
    exact hM w v y hy) _ (l - 1) (by omega) _ (.slice .full 7 []) (kidsA a) (by omega) (fun d hd=>H1 d (kidsA_sub a d hd)) (fun w=>by have:=hc w;rw [hbd,if_pos hob] at this;simp only [List.length_singleton];omega) (by omega) _ _ 0 (Nat.zero_le _) [] (.slice .full 5 []) _ (l - 1) sa0 ?_
 | refine sub_l1 j T L K _ s.nx off a a.n M hM pp (l - 1) (by omega) c (.slice .full 7 []) (kidsA a) (by omega) (fun d hd=>H1 d (kidsA_sub a d hd)) (fun w=>by have:=hc w;omega) (by omega) _ _ 0 (Nat.zero_le _) [] (.slice .full 5 []) pp (l - 1) sb0 ?_
 intro k1 zs vA q2 l2 S6 hA
 refine bqx (sqn (er (qp J ?_)))
 first
 | (refine hcall rfl rfl rfl (undn_c _ j T q2 l2 b4 b8 ad (by rw [al];simp) _ hA.rn (ub5.keep hA.ch.c (fun e=>e.elim (nX _ (by omega)) (by omega)) (fun e=>e.elim (nX _ (by omega)) (by omega)))) ?_
    rintro _ S7 ⟨rfl,R7,k7⟩
    rw [ud] at R7)
 | (refine hcall rfl rfl rfl (suc1_c _) ?_
    rintro _ _ ⟨rfl,hq⟩
    obtain rfl:=hq.symm
    have R7:=hA.rn
    have k7:Ch (fun i=>i=j.i0 ∨ i=j.i1) S6 S6:=Ch.refl _)
 have o7:=(k7.c.ob _ hA.bl (fun e=>nX _ (Nat.le_refl _) (.inr e))).trans hA.ob
 have sb1:=sb_init (K:=K) (xs:=kidsB a) R7 hA.po o7 (Nat.lt_of_lt_of_le hA.bl k7.c.nx)
 refine qn (kq4 J) (kq1 J) (eseq (er (pq3 J (qn (kq6 J) (kq1 J) (eblock ?_)))))
 have hAlo:=hA.lo
 have hAle:=hA.le
 rw [List.take_of_length_le (Nat.le_refl _)] at hAlo
 refine sub_l2 j T L K _ s.nx off a _ M hM q2 l2 (by omega) _ vA (kidsB a) (by omega) (fun d hd=>H2 d (kidsB_sub a d hd)) (fun w=>by
  have:=hc w
  rw [List.take_of_length_le (Nat.le_refl _)]
  first
  | (rw [hbd,if_pos hob] at this;simp only [List.length_singleton];omega)
  | omega) (by omega) 0 (Nat.zero_le _) [] (.slice .full 7 []) q2 l2 sb1 ?_
 intro k2 ws vB q3 l3 S8 hB
 refine bqx (sqn (eseq (ereg (hldo rfl hB.ob (y:=.agg _) rfl ?_))))
 refine hstl J J J J (Nlb J) (lq5 J) (qn (kq1 J) (kq1 J) ?_)
 first
 | refine eretz_loc rfl rfl ?_
 | (have we8:W.WE 5 vA (zs.map Node.enc) S8:=we_mono hA.we (fun g hg=>(hB.ch.mu g (Nat.lt_of_lt_of_le (we_lt hA.we g hg) k7.mn)).trans (k7.mu g (we_lt hA.we g hg))) (Nat.le_trans k7.mn hB.ch.mn)
    obtain ⟨oA,oB,mz,z1,z2⟩:=frz_two (op:=a.op) (ty:=a.ty) we8 hB.we (fun g hg hg2=>by have:=hB.tk g hg;have:=we_lt hA.we g hg2;have:=k7.mn;omega)
    refine eretz_loc rfl z1 ?_)
 refine fqr J ?_
 rotate_left
 refine qn (kq4 J) (kq1 J) (ecT J (er (hbuild J J (lq5 J) (hstl J J J J (Nlb J) (lq5 J) (qn (kq1 J) (kq1 J) ?_)))))
 first
 | refine eretz_loc rfl rfl ?_
 | (have we8:W.WE 5 vA (zs.map Node.enc) S8:=we_mono hA.we (fun g hg=>(hB.ch.mu g (Nat.lt_of_lt_of_le (we_lt hA.we g hg) k7.mn)).trans (k7.mu g (we_lt hA.we g hg))) (Nat.le_trans k7.mn hB.ch.mn)
    obtain ⟨oA,oB,mz,z1,z2⟩:=frz_two (op:=a.op) (ty:=a.ty) we8 hB.we (fun g hg hg2=>by have:=hB.tk g hg;have:=we_lt hA.we g hg2;have:=k7.mn;omega)
    refine eretz_loc rfl z1 ?_)
 refine sqr (fqr J ?_)
 rotate_left
 refine qp rfl (qk (kc rfl (kc rfl (kc rfl (kc rfl kn)))) (kc rfl kn) (sqn (ecT rfl (eseq (ereg_1 (dc (dc (dc (dc dn rfl) rfl) rfl) rfl) (qp rfl (qp rfl (hldo (y:=I a.op) rfl b1 rfl ?_))))))))
 refine hcallk J J J (Sort_c _ a.op) ?_ ?_
 rintro _ S' ⟨rfl,rfl⟩
 exact ⟨.inl ⟨s.nx,0,_,rfl,b1,b1⟩,rfl⟩
 rintro _ _ ⟨rfl,hq⟩
 obtain rfl:=hq.symm
 have hop:a.op=0 ∨ a.op=5:=by
  first
  | exact .inl (by simpa using h1)
  | exact .inr (by simpa using h2)
 obtain ⟨w,hw1,hw2⟩:∃ w:Bool,sortOf a.op=sideOf w ∧ w=decide (a.op=5):=by
  rcases hop with e | e
  ·exact ⟨false,by rw [e];rfl,by simp [e]⟩
  exact ⟨true,by rw [e];rfl,by simp [e]⟩
 rw [hw1]
 refine pq2 J ?_
 refine qp (t:=.val (.ptr j.k (0 + 5 + (sideOf w).toNat * 1))) (by cases w <;> rfl) ?_
 refine hldo rfl R0.hk (y:=.map (j.i w)) (by cases w <;> rfl) ?_
 refine qp rfl (hldoq (y:=I a.n) rfl rfl b1 rfl ?_)
 refine hlk2 (id:=j.i w) (m:=ndM (M w)) rfl rfl rfl (R0.hm w) ?_
 obtain ⟨a0,a1,a2,a3,a4,hz1,hz2⟩:=old_cells (M w) a.n
 rw [hz1,ndM_some]
 refine pq3 J (qb ?_)
 rintro (_ | _) h6
 refine hal (dc (dc (dc (dc (dc (dc (dc (dc (dc (dc (dc (dc (dc (dc (dc (dc (dc (dc dn rfl) rfl) rfl) rfl) rfl) rfl) rfl) rfl) rfl) rfl) rfl) rfl) rfl) rfl) rfl) rfl) rfl) rfl) (hstl rfl rfl rfl rfl (Nlb rfl) (lc rfl (lc rfl (lc rfl (lc rfl (lc rfl (ln rfl)))))) (qp rfl (qk (kc rfl (kc rfl (kc rfl (kc rfl (kc rfl kn))))) (kc rfl (kc rfl kn)) (sqn (eseq (ereg (qp rfl (qk (kc rfl (kc rfl (kc rfl (kc rfl (kc rfl kn))))) (kc rfl (kc rfl kn)) (sqn (ecF rfl (eskip (sqn (eseq (eseq (ereg (qp rfl (qp rfl (qp rfl (hldo (y:=I l) rfl R0.hk rfl ?_)))))))))))))))))))
 refine hsub (r:=l - 1) rfl rfl (i64w (by omega)) (qp rfl (qp rfl (hsto (cs':=j.row pp (l - 1)) rfl rfl R0.hk rfl (Nlb rfl) (by simp) rfl ?_)))
 have R2:=R0.row (p':=pp) (l':=l - 1)
 have k2:=k0.set (i:=j.k) (fun _=>.inl rfl) (.row (j.row pp (l - 1)))
 have b2:(S0.set j.k (.row (j.row pp (l - 1)))).ob s.nx=_:=(set_ne off.k).trans b1
 generalize hS2:S0.set j.k (.row (j.row pp (l - 1)))=S2 at R2 k2 b2 ⊢
 have x2:S2.nx=s.nx + 1:=by rw [← hS2];exact x0
 refine qk (kc rfl (kc rfl (kc rfl kn))) (kc rfl kn) (sqn (eseq (ereg (qp rfl (qp rfl (qp rfl (hldo (y:=I (l - 1)) rfl R2.hk rfl ?_)))))))
 refine qp J (qb ?_)
 rintro (_ | _) h7
 refine qk (kc rfl (kc rfl (kc rfl (kc rfl kn)))) (kc rfl kn) (sqn (ecF rfl (eskip (sqn (eseq (ereg (hldo (y:=.agg a.cs) rfl b2 rfl ?_)))))))
 refine hcall J J J (children_c _ _) ?_
 rintro _ _ ⟨rfl,hq⟩
 obtain rfl:=hq.symm
 refine qp rfl (qp rfl (qp rfl (qp rfl (qp rfl (qk (kc rfl (kc rfl (kc rfl (kc rfl (kc rfl kn))))) (kc rfl kn) (sqn (eseq (ereg (qp rfl (hsto (cs':=NodeRow a.op a.n a.ty (.slice .full 5 []) (SL 7 (a.brs.map Br.enc))) rfl rfl b2 rfl (Nlb rfl) (by simp) rfl (qp rfl (hsto (cs':=NodeRow a.op a.n a.ty (.slice .full 5 []) (.slice .full 7 [])) rfl rfl set_ob rfl (Nlb rfl) (by simp) rfl ?_))))))))))))
 have R3:=(R2.obj off (.row (NodeRow a.op a.n a.ty (.slice .full 5 []) (SL 7 (a.brs.map Br.enc))))).obj off (.row (NodeRow a.op a.n a.ty (.slice .full 5 []) (.slice .full 7 [])))
 have k3:=(k2.set (i:=s.nx) (fun h=>absurd h (Nat.lt_irrefl _)) (.row (NodeRow a.op a.n a.ty (.slice .full 5 []) (SL 7 (a.brs.map Br.enc))))).set (i:=s.nx) (fun h=>absurd h (Nat.lt_irrefl _)) (.row (NodeRow a.op a.n a.ty (.slice .full 5 []) (.slice .full 7 [])))
 have b3:((S2.set s.nx (.row (NodeRow a.op a.n a.ty (.slice .full 5 []) (SL 7 (a.brs.map Br.enc))))).set s.nx (.row (NodeRow a.op a.n a.ty (.slice .full 5 []) (.slice .full 7 [])))).ob s.nx=some (.row (NodeRow a.op a.n a.ty (.slice .full 5 []) (.slice .full 7 []))):=set_ob
 generalize hS3:(S2.set s.nx (.row (NodeRow a.op a.n a.ty (.slice .full 5 []) (SL 7 (a.brs.map Br.enc))))).set s.nx (.row (NodeRow a.op a.n a.ty (.slice .full 5 []) (.slice .full 7 [])))=S3 at R3 k3 b3 ⊢
 have x3:S3.nx=s.nx + 1:=by rw [← hS3];exact x2
 have sb0:=sa_init (K:=K) (xs:=kidsA a) R3 hP b3 (by omega)
 refine qk (kc rfl (kc rfl (kc rfl (kc rfl (kc rfl kn))))) (kc rfl kn) (sqn (eseq (ereg (qp rfl (qk (kc rfl (kc rfl (kc rfl (kc rfl (kc rfl (kc rfl kn)))))) (kc rfl kn) (sqn (eseq (eseq (ereg (qp rfl (hldo (y:=I a.op) rfl b3 rfl ?_)))))))))))
 refine qp J (qb ?_)
 rintro (_ | _) h8
 refine qp rfl (qg rfl (qp rfl (qg rfl (hldo (y:=I a.op) rfl b3 rfl ?_))))
 refine qg J (qp J (qb ?_))
 rintro (_ | _) h9
 refine qp J (qn (kq7 J) (kq1 J) (ecF J (eskip (sqn (eseq (er (pq3 J (qn (kq8 J) (kq1 J) (eblock ?_)))))))))
 first
 | refine sub_l1 j T L K _ s.nx off a x _ (fun w v y hy=>by
    unfold putG at hy
    split at hy
    ·cases hy;exact hK
    exact hM w v y hy) _ (l - 1) (by omega) _ (.slice .full 7 []) (kidsA a) (by omega) (fun d hd=>H1 d (kidsA_sub a d hd)) (fun w=>by have:=hc w;rw [hbd,if_pos hob] at this;simp only [List.length_singleton];omega) (by omega) _ _ 0 (Nat.zero_le _) [] (.slice .full 5 []) _ (l - 1) sa0 ?_
 | refine sub_l1 j T L K _ s.nx off a a.n M hM pp (l - 1) (by omega) c (.slice .full 7 []) (kidsA a) (by omega) (fun d hd=>H1 d (kidsA_sub a d hd)) (fun w=>by have:=hc w;omega) (by omega) _ _ 0 (Nat.zero_le _) [] (.slice .full 5 []) pp (l - 1) sb0 ?_
 intro k1 zs vA q2 l2 S6 hA
 refine bqx (sqn (er (qp J ?_)))
 first
 | (refine hcall rfl rfl rfl (undn_c _ j T q2 l2 b4 b8 ad (by rw [al];simp) _ hA.rn (ub5.keep hA.ch.c (fun e=>e.elim (nX _ (by omega)) (by omega)) (fun e=>e.elim (nX _ (by omega)) (by omega)))) ?_
    rintro _ S7 ⟨rfl,R7,k7⟩
    rw [ud] at R7)
 | (refine hcall rfl rfl rfl (suc1_c _) ?_
    rintro _ _ ⟨rfl,hq⟩
    obtain rfl:=hq.symm
    have R7:=hA.rn
    have k7:Ch (fun i=>i=j.i0 ∨ i=j.i1) S6 S6:=Ch.refl _)
 have o7:=(k7.c.ob _ hA.bl (fun e=>nX _ (Nat.le_refl _) (.inr e))).trans hA.ob
 have sb1:=sb_init (K:=K) (xs:=kidsB a) R7 hA.po o7 (Nat.lt_of_lt_of_le hA.bl k7.c.nx)
 refine qn (kq4 J) (kq1 J) (eseq (er (pq3 J (qn (kq6 J) (kq1 J) (eblock ?_)))))
 have hAlo:=hA.lo
 have hAle:=hA.le
 rw [List.take_of_length_le (Nat.le_refl _)] at hAlo
 refine sub_l2 j T L K _ s.nx off a _ M hM q2 l2 (by omega) _ vA (kidsB a) (by omega) (fun d hd=>H2 d (kidsB_sub a d hd)) (fun w=>by
  have:=hc w
  rw [List.take_of_length_le (Nat.le_refl _)]
  first
  | (rw [hbd,if_pos hob] at this;simp only [List.length_singleton];omega)
  | omega) (by omega) 0 (Nat.zero_le _) [] (.slice .full 7 []) q2 l2 sb1 ?_
 intro k2 ws vB q3 l3 S8 hB
 refine bqx (sqn (eseq (ereg (hldo rfl hB.ob (y:=.agg _) rfl ?_))))
 refine hstl J J J J (Nlb J) (lq5 J) (qn (kq1 J) (kq1 J) ?_)
 first
 | refine eretz_loc rfl rfl ?_
 | (have we8:W.WE 5 vA (zs.map Node.enc) S8:=we_mono hA.we (fun g hg=>(hB.ch.mu g (Nat.lt_of_lt_of_le (we_lt hA.we g hg) k7.mn)).trans (k7.mu g (we_lt hA.we g hg))) (Nat.le_trans k7.mn hB.ch.mn)
    obtain ⟨oA,oB,mz,z1,z2⟩:=frz_two (op:=a.op) (ty:=a.ty) we8 hB.we (fun g hg hg2=>by have:=hB.tk g hg;have:=we_lt hA.we g hg2;have:=k7.mn;omega)
    refine eretz_loc rfl z1 ?_)
 refine fqr J ?_
 rotate_left
 refine qp J (qn (kq7 J) (kq1 J) (ecT J (er (qp J (qn (kq5 J) (kq1 J) (er (pq2 J ?_)))))))
 have hob:a.op=3 ∨ a.op=7:=by
  first
  | (refine .inl (Odt ?_);assumption)
  | (refine .inr (Odt ?_);assumption)
 refine hldo (y:=I a.n) rfl b3 rfl ?_
 refine hbsl J J (lq1 J) (qp J ?_)
 refine hcall rfl rfl rfl (under_c S3 j T L hL (l - 1) c M pp [a.n] [decide (a.op=3)] (by simp) (fun w=>by have:=hc w;rw [hbd,if_pos hob] at this;simp only [List.length_singleton];omega) (by simp) N65_ s.nx _ b3 (by omega) (nX _ (Nat.le_refl _)) (fun i d S' hd hx=>by
  cases i with
  | zero =>
    cases hd
    exact suc2_c S' _ _ _ _ _ _ hx _
  | succ i=>simp at hd) R3 hP) ?_
 rintro _ S4 ⟨names,M1,q1,b4,b8,ad,rfl,un,R4,P4,ud,al,nl,ub,k4,g3,g8⟩
 rw [Und] at un
 obtain ⟨x,p1,names',fx,rfl,un⟩:=un
 rw [Und] at un
 obtain ⟨rfl,rfl,rfl⟩:=un
 have o4:=(k4.c.ob _ (by omega) (nX _ (Nat.le_refl _))).trans b3
 have x4:=k4.c.nx
 refine qp rfl (qp rfl (qp rfl (qp rfl (qp rfl (qk (kc rfl (kc rfl (kc rfl (kc rfl (kc rfl (kc rfl (kc rfl kn))))))) (kc rfl kn) (sqn (ereg (qp rfl (hia (y:=I x) rfl rfl (by omega) rfl rfl (W.hldR (y:=I x) rfl (.inl rfl) rfl (qp rfl (hsto (cs':=NodeRow a.op x a.ty (.slice .full 5 []) (.slice .full 7 [])) rfl rfl o4 rfl (Nlb rfl) (by simp) rfl ?_))))))))))))
 have R5:=R4.obj off (.row (NodeRow a.op x a.ty (.slice .full 5 []) (.slice .full 7 [])))
 have k5:=(k3.trans k4).set (i:=s.nx) (fun h=>absurd h (Nat.lt_irrefl _)) (.row (NodeRow a.op x a.ty (.slice .full 5 []) (.slice .full 7 [])))
 have ub5:=ub.keep (Y:=fun i=>i=s.nx) ((Chg.refl S4).set (i:=s.nx) (o:=.row (NodeRow a.op x a.ty (.slice .full 5 []) (.slice .full 7 []))) fun _=>rfl) (by omega) (by omega)
 have sa0:=sa_init (K:=K) (xs:=kidsA a) (vB:=.slice .full 7 []) R5 P4 set_ob (by show s.nx < S4.nx;omega)
 refine qn (kq6 J) (kq1 J) (eseq (er (pq3 J (qn (kq8 J) (kq1 J) (eblock ?_)))))
 first
 | refine sub_l1 j T L K _ s.nx off a x _ (fun w v y hy=>by
    unfold putG at hy
    split at hy
    ·cases hy;exact hK
    exact hM w v y hy) _ (l - 1) (by omega) _ (.slice .full 7 []) (kidsA a) (by omega) (fun d hd=>H1 d (kidsA_sub a d hd)) (fun w=>by have:=hc w;rw [hbd,if_pos hob] at this;simp only [List.length_singleton];omega) (by omega) _ _ 0 (Nat.zero_le _) [] (.slice .full 5 []) _ (l - 1) sa0 ?_
 | refine sub_l1 j T L K _ s.nx off a a.n M hM pp (l - 1) (by omega) c (.slice .full 7 []) (kidsA a) (by omega) (fun d hd=>H1 d (kidsA_sub a d hd)) (fun w=>by have:=hc w;omega) (by omega) _ _ 0 (Nat.zero_le _) [] (.slice .full 5 []) pp (l - 1) sb0 ?_
 intro k1 zs vA q2 l2 S6 hA
 refine bqx (sqn (er (qp J ?_)))
 first
 | (refine hcall rfl rfl rfl (undn_c _ j T q2 l2 b4 b8 ad (by rw [al];simp) _ hA.rn (ub5.keep hA.ch.c (fun e=>e.elim (nX _ (by omega)) (by omega)) (fun e=>e.elim (nX _ (by omega)) (by omega)))) ?_
    rintro _ S7 ⟨rfl,R7,k7⟩
    rw [ud] at R7)
 | (refine hcall rfl rfl rfl (suc1_c _) ?_
    rintro _ _ ⟨rfl,hq⟩
    obtain rfl:=hq.symm
    have R7:=hA.rn
    have k7:Ch (fun i=>i=j.i0 ∨ i=j.i1) S6 S6:=Ch.refl _)
 have o7:=(k7.c.ob _ hA.bl (fun e=>nX _ (Nat.le_refl _) (.inr e))).trans hA.ob
 have sb1:=sb_init (K:=K) (xs:=kidsB a) R7 hA.po o7 (Nat.lt_of_lt_of_le hA.bl k7.c.nx)
 refine qn (kq4 J) (kq1 J) (eseq (er (pq3 J (qn (kq6 J) (kq1 J) (eblock ?_)))))
 have hAlo:=hA.lo
 have hAle:=hA.le
 rw [List.take_of_length_le (Nat.le_refl _)] at hAlo
 refine sub_l2 j T L K _ s.nx off a _ M hM q2 l2 (by omega) _ vA (kidsB a) (by omega) (fun d hd=>H2 d (kidsB_sub a d hd)) (fun w=>by
  have:=hc w
  rw [List.take_of_length_le (Nat.le_refl _)]
  first
  | (rw [hbd,if_pos hob] at this;simp only [List.length_singleton];omega)
  | omega) (by omega) 0 (Nat.zero_le _) [] (.slice .full 7 []) q2 l2 sb1 ?_
 intro k2 ws vB q3 l3 S8 hB
 refine bqx (sqn (eseq (ereg (hldo rfl hB.ob (y:=.agg _) rfl ?_))))
 refine hstl J J J J (Nlb J) (lq5 J) (qn (kq1 J) (kq1 J) ?_)
 first
 | refine eretz_loc rfl rfl ?_
 | (have we8:W.WE 5 vA (zs.map Node.enc) S8:=we_mono hA.we (fun g hg=>(hB.ch.mu g (Nat.lt_of_lt_of_le (we_lt hA.we g hg) k7.mn)).trans (k7.mu g (we_lt hA.we g hg))) (Nat.le_trans k7.mn hB.ch.mn)
    obtain ⟨oA,oB,mz,z1,z2⟩:=frz_two (op:=a.op) (ty:=a.ty) we8 hB.we (fun g hg hg2=>by have:=hB.tk g hg;have:=we_lt hA.we g hg2;have:=k7.mn;omega)
    refine eretz_loc rfl z1 ?_)
 refine fqr J ?_
 rotate_left
 refine qp J (zq3 J (qp J (qn (kq7 J) (kq1 J) (ecT J (er (qp J (qn (kq5 J) (kq1 J) (er (pq2 J ?_)))))))))
 have hob:a.op=3 ∨ a.op=7:=by
  first
  | (refine .inl (Odt ?_);assumption)
  | (refine .inr (Odt ?_);assumption)
 refine hldo (y:=I a.n) rfl b3 rfl ?_
 refine hbsl J J (lq1 J) (qp J ?_)
 refine hcall rfl rfl rfl (under_c S3 j T L hL (l - 1) c M pp [a.n] [decide (a.op=3)] (by simp) (fun w=>by have:=hc w;rw [hbd,if_pos hob] at this;simp only [List.length_singleton];omega) (by simp) N65_ s.nx _ b3 (by omega) (nX _ (Nat.le_refl _)) (fun i d S' hd hx=>by
  cases i with
  | zero =>
    cases hd
    exact suc2_c S' _ _ _ _ _ _ hx _
  | succ i=>simp at hd) R3 hP) ?_
 rintro _ S4 ⟨names,M1,q1,b4,b8,ad,rfl,un,R4,P4,ud,al,nl,ub,k4,g3,g8⟩
 rw [Und] at un
 obtain ⟨x,p1,names',fx,rfl,un⟩:=un
 rw [Und] at un
 obtain ⟨rfl,rfl,rfl⟩:=un
 have o4:=(k4.c.ob _ (by omega) (nX _ (Nat.le_refl _))).trans b3
 have x4:=k4.c.nx
 refine qp rfl (qp rfl (qp rfl (qp rfl (qp rfl (qk (kc rfl (kc rfl (kc rfl (kc rfl (kc rfl (kc rfl (kc rfl kn))))))) (kc rfl kn) (sqn (ereg (qp rfl (hia (y:=I x) rfl rfl (by omega) rfl rfl (W.hldR (y:=I x) rfl (.inl rfl) rfl (qp rfl (hsto (cs':=NodeRow a.op x a.ty (.slice .full 5 []) (.slice .full 7 [])) rfl rfl o4 rfl (Nlb rfl) (by simp) rfl ?_))))))))))))
 have R5:=R4.obj off (.row (NodeRow a.op x a.ty (.slice .full 5 []) (.slice .full 7 [])))
 have k5:=(k3.trans k4).set (i:=s.nx) (fun h=>absurd h (Nat.lt_irrefl _)) (.row (NodeRow a.op x a.ty (.slice .full 5 []) (.slice .full 7 [])))
 have ub5:=ub.keep (Y:=fun i=>i=s.nx) ((Chg.refl S4).set (i:=s.nx) (o:=.row (NodeRow a.op x a.ty (.slice .full 5 []) (.slice .full 7 []))) fun _=>rfl) (by omega) (by omega)
 have sa0:=sa_init (K:=K) (xs:=kidsA a) (vB:=.slice .full 7 []) R5 P4 set_ob (by show s.nx < S4.nx;omega)
 refine qn (kq6 J) (kq1 J) (eseq (er (pq3 J (qn (kq8 J) (kq1 J) (eblock ?_)))))
 first
 | refine sub_l1 j T L K _ s.nx off a x _ (fun w v y hy=>by
    unfold putG at hy
    split at hy
    ·cases hy;exact hK
    exact hM w v y hy) _ (l - 1) (by omega) _ (.slice .full 7 []) (kidsA a) (by omega) (fun d hd=>H1 d (kidsA_sub a d hd)) (fun w=>by have:=hc w;rw [hbd,if_pos hob] at this;simp only [List.length_singleton];omega) (by omega) _ _ 0 (Nat.zero_le _) [] (.slice .full 5 []) _ (l - 1) sa0 ?_
 | refine sub_l1 j T L K _ s.nx off a a.n M hM pp (l - 1) (by omega) c (.slice .full 7 []) (kidsA a) (by omega) (fun d hd=>H1 d (kidsA_sub a d hd)) (fun w=>by have:=hc w;omega) (by omega) _ _ 0 (Nat.zero_le _) [] (.slice .full 5 []) pp (l - 1) sb0 ?_
 intro k1 zs vA q2 l2 S6 hA
 refine bqx (sqn (er (qp J ?_)))
 first
 | (refine hcall rfl rfl rfl (undn_c _ j T q2 l2 b4 b8 ad (by rw [al];simp) _ hA.rn (ub5.keep hA.ch.c (fun e=>e.elim (nX _ (by omega)) (by omega)) (fun e=>e.elim (nX _ (by omega)) (by omega)))) ?_
    rintro _ S7 ⟨rfl,R7,k7⟩
    rw [ud] at R7)
 | (refine hcall rfl rfl rfl (suc1_c _) ?_
    rintro _ _ ⟨rfl,hq⟩
    obtain rfl:=hq.symm
    have R7:=hA.rn
    have k7:Ch (fun i=>i=j.i0 ∨ i=j.i1) S6 S6:=Ch.refl _)
 have o7:=(k7.c.ob _ hA.bl (fun e=>nX _ (Nat.le_refl _) (.inr e))).trans hA.ob
 have sb1:=sb_init (K:=K) (xs:=kidsB a) R7 hA.po o7 (Nat.lt_of_lt_of_le hA.bl k7.c.nx)
 refine qn (kq4 J) (kq1 J) (eseq (er (pq3 J (qn (kq6 J) (kq1 J) (eblock ?_)))))
 have hAlo:=hA.lo
 have hAle:=hA.le
 rw [List.take_of_length_le (Nat.le_refl _)] at hAlo
 refine sub_l2 j T L K _ s.nx off a _ M hM q2 l2 (by omega) _ vA (kidsB a) (by omega) (fun d hd=>H2 d (kidsB_sub a d hd)) (fun w=>by
  have:=hc w
  rw [List.take_of_length_le (Nat.le_refl _)]
  first
  | (rw [hbd,if_pos hob] at this;simp only [List.length_singleton];omega)
  | omega) (by omega) 0 (Nat.zero_le _) [] (.slice .full 7 []) q2 l2 sb1 ?_
 intro k2 ws vB q3 l3 S8 hB
 refine bqx (sqn (eseq (ereg (hldo rfl hB.ob (y:=.agg _) rfl ?_))))
 refine hstl J J J J (Nlb J) (lq5 J) (qn (kq1 J) (kq1 J) ?_)
 first
 | refine eretz_loc rfl rfl ?_
 | (have we8:W.WE 5 vA (zs.map Node.enc) S8:=we_mono hA.we (fun g hg=>(hB.ch.mu g (Nat.lt_of_lt_of_le (we_lt hA.we g hg) k7.mn)).trans (k7.mu g (we_lt hA.we g hg))) (Nat.le_trans k7.mn hB.ch.mn)
    obtain ⟨oA,oB,mz,z1,z2⟩:=frz_two (op:=a.op) (ty:=a.ty) we8 hB.we (fun g hg hg2=>by have:=hB.tk g hg;have:=we_lt hA.we g hg2;have:=k7.mn;omega)
    refine eretz_loc rfl z1 ?_)
 refine fqr J ?_
 rotate_left
 refine qn (kq4 J) (kq1 J) (ecT J (er (hbuild J J (lq5 J) (hstl J J J J (Nlb J) (lq5 J) (qn (kq1 J) (kq1 J) ?_)))))
 first
 | refine eretz_loc rfl rfl ?_
 | (have we8:W.WE 5 vA (zs.map Node.enc) S8:=we_mono hA.we (fun g hg=>(hB.ch.mu g (Nat.lt_of_lt_of_le (we_lt hA.we g hg) k7.mn)).trans (k7.mu g (we_lt hA.we g hg))) (Nat.le_trans k7.mn hB.ch.mn)
    obtain ⟨oA,oB,mz,z1,z2⟩:=frz_two (op:=a.op) (ty:=a.ty) we8 hB.we (fun g hg hg2=>by have:=hB.tk g hg;have:=we_lt hA.we g hg2;have:=k7.mn;omega)
    refine eretz_loc rfl z1 ?_)
 refine sqr (fqr J ?_)
 rotate_left
 refine hal (dc (dc (dq16 J) J) J) (hstl J J J J (Nlb J) (lq5 J) (qp J (qn (kq5 J) (kq2 J) (er (qp J (qn (kq5 J) (kq2 J) (ecT J (er (hlda J J (lq5 J) ?_)))))))))
 obtain ⟨x,hx⟩:∃ x,M w a.n=some x:=Option.isSome_iff_exists.1 ‹_›
 have hxs:=hM w a.n x hx
 have hx5:AV.ers ([] ++ [AV.agg [a0,a1,a2,a3,a4]] ++ [])=[AV.agg x.cs]:=by
  rw [hx] at hz2
  have hz2:AV.ers [a0,a1,a2,a3,a4]=x.cs:=hz2
  show [AV.agg (AV.ers [a0,a1,a2,a3,a4])]=_
  rw [hz2]
 have hxn1:=nNodes_all x
 have hxn2:=nAll_sz x
 refine hcall J J hx5 (CSize_c _ x (by omega)) ?_
 rintro _ S1 ⟨rfl,m1⟩
 have k1:Ch j.X S0 S1:=MX.ch m1
 have R1:=R0.keep (Y:=fun _=>False) (MX.ch m1).c id (fun _=>id) (fun _=>id)
 refine qp rfl (qp rfl (qp rfl (qp rfl (qp rfl (qk (kc rfl (kc rfl (kc rfl (kc rfl kn)))) (kc rfl (kc rfl kn)) (sqn (eseq (eseq (ereg (qp rfl (qp rfl (qp rfl (hldo (y:=I l) rfl R1.hk rfl ?_)))))))))))))
 refine qp rfl (hsub (r:=l - nNodes x) rfl rfl (i64w (by omega)) (qp rfl (qp rfl (hsto (cs':=j.row pp (l - nNodes x)) rfl rfl R1.hk rfl (Nlb rfl) (by simp) rfl ?_))))
 have R2:=R1.row (p':=pp) (l':=l - nNodes x)
 have k2:=(k0.trans k1).set (i:=j.k) (fun _=>.inl rfl) (.row (j.row pp (l - nNodes x)))
 refine qk (kc rfl (kc rfl (kc rfl kn))) (kc rfl (kc rfl kn)) (sqn (eseq (ereg (qp rfl (qp rfl (qp rfl (hldo (y:=I (l - nNodes x)) rfl R2.hk rfl ?_)))))))
 refine qp J (qb ?_)
 rintro (_ | _) h10
 refine qn (kq3 J) (kq2 J) (ecF J (eskip (sqn (er (hlda J J (lq5 J) (hcall J J hx5 (Copied_c x (by omega) _) ?_))))))
 rintro _ _ ⟨rfl,hq⟩
 obtain rfl:=hq.symm
 refine hstl J J J J (Nlb J) (lq5 J) (qn (kq1 J) (kq1 J) ?_)
 first
 | refine eretz_loc rfl rfl ?_
 | (have we8:W.WE 5 vA (zs.map Node.enc) S8:=we_mono hA.we (fun g hg=>(hB.ch.mu g (Nat.lt_of_lt_of_le (we_lt hA.we g hg) k7.mn)).trans (k7.mu g (we_lt hA.we g hg))) (Nat.le_trans k7.mn hB.ch.mn)
    obtain ⟨oA,oB,mz,z1,z2⟩:=frz_two (op:=a.op) (ty:=a.ty) we8 hB.we (fun g hg hg2=>by have:=hB.tk g hg;have:=we_lt hA.we g hg2;have:=k7.mn;omega)
    refine eretz_loc rfl z1 ?_)
 refine sqr (fqr J ?_)
 rotate_left
 refine qn (kq3 J) (kq2 J) (ecT J (er (hbuild J J (lq5 J) (hstl J J J J (Nlb J) (lq5 J) (qn (kq1 J) (kq1 J) ?_)))))
 first
 | refine eretz_loc rfl rfl ?_
 | (have we8:W.WE 5 vA (zs.map Node.enc) S8:=we_mono hA.we (fun g hg=>(hB.ch.mu g (Nat.lt_of_lt_of_le (we_lt hA.we g hg) k7.mn)).trans (k7.mu g (we_lt hA.we g hg))) (Nat.le_trans k7.mn hB.ch.mn)
    obtain ⟨oA,oB,mz,z1,z2⟩:=frz_two (op:=a.op) (ty:=a.ty) we8 hB.we (fun g hg hg2=>by have:=hB.tk g hg;have:=we_lt hA.we g hg2;have:=k7.mn;omega)
    refine eretz_loc rfl z1 ?_)
 refine sqr (sqr (fqr J ?_))
 rotate_left
 refine qp rfl (qs rfl rfl (by decide) (qs rfl rfl (by decide) (qs rfl rfl (by decide) (qp rfl (qk (kc rfl (kc rfl (kc rfl (kc rfl kn)))) (kc rfl kn) (sqn (ecT rfl (eseq (ereg_1 (dc (dc (dc (dc dn rfl) rfl) rfl) rfl) (qp rfl (qp rfl (hldo (y:=I a.op) rfl b1 rfl ?_))))))))))))
 refine hcallk J J J (Sort_c _ a.op) ?_ ?_
 rintro _ S' ⟨rfl,rfl⟩
 exact ⟨.inl ⟨s.nx,0,_,rfl,b1,b1⟩,rfl⟩
 rintro _ _ ⟨rfl,hq⟩
 obtain rfl:=hq.symm
 have hop:a.op=0 ∨ a.op=5:=by
  first
  | exact .inl (by simpa using h1)
  | exact .inr (by simpa using h2)
 obtain ⟨w,hw1,hw2⟩:∃ w:Bool,sortOf a.op=sideOf w ∧ w=decide (a.op=5):=by
  rcases hop with e | e
  ·exact ⟨false,by rw [e];rfl,by simp [e]⟩
  exact ⟨true,by rw [e];rfl,by simp [e]⟩
 rw [hw1]
 refine pq2 J ?_
 refine qp (t:=.val (.ptr j.k (0 + 5 + (sideOf w).toNat * 1))) (by cases w <;> rfl) ?_
 refine hldo rfl R0.hk (y:=.map (j.i w)) (by cases w <;> rfl) ?_
 refine qp rfl (hldoq (y:=I a.n) rfl rfl b1 rfl ?_)
 refine hlk2 (id:=j.i w) (m:=ndM (M w)) rfl rfl rfl (R0.hm w) ?_
 obtain ⟨a0,a1,a2,a3,a4,hz1,hz2⟩:=old_cells (M w) a.n
 rw [hz1,ndM_some]
 refine pq3 J (qb ?_)
 rintro (_ | _) h11
 refine hal (dc (dc (dc (dc (dc (dc (dc (dc (dc (dc (dc (dc (dc (dc (dc (dc (dc (dc dn rfl) rfl) rfl) rfl) rfl) rfl) rfl) rfl) rfl) rfl) rfl) rfl) rfl) rfl) rfl) rfl) rfl) rfl) (hstl rfl rfl rfl rfl (Nlb rfl) (lc rfl (lc rfl (lc rfl (lc rfl (lc rfl (ln rfl)))))) (qp rfl (qk (kc rfl (kc rfl (kc rfl (kc rfl (kc rfl kn))))) (kc rfl (kc rfl kn)) (sqn (eseq (ereg (qp rfl (qk (kc rfl (kc rfl (kc rfl (kc rfl (kc rfl kn))))) (kc rfl (kc rfl kn)) (sqn (ecF rfl (eskip (sqn (eseq (eseq (ereg (qp rfl (qp rfl (qp rfl (hldo (y:=I l) rfl R0.hk rfl ?_)))))))))))))))))))
 refine hsub (r:=l - 1) rfl rfl (i64w (by omega)) (qp rfl (qp rfl (hsto (cs':=j.row pp (l - 1)) rfl rfl R0.hk rfl (Nlb rfl) (by simp) rfl ?_)))
 have R2:=R0.row (p':=pp) (l':=l - 1)
 have k2:=k0.set (i:=j.k) (fun _=>.inl rfl) (.row (j.row pp (l - 1)))
 have b2:(S0.set j.k (.row (j.row pp (l - 1)))).ob s.nx=_:=(set_ne off.k).trans b1
 generalize hS2:S0.set j.k (.row (j.row pp (l - 1)))=S2 at R2 k2 b2 ⊢
 have x2:S2.nx=s.nx + 1:=by rw [← hS2];exact x0
 refine qk (kc rfl (kc rfl (kc rfl kn))) (kc rfl kn) (sqn (eseq (ereg (qp rfl (qp rfl (qp rfl (hldo (y:=I (l - 1)) rfl R2.hk rfl ?_)))))))
 refine qp J (qb ?_)
 rintro (_ | _) h12
 refine qk (kc rfl (kc rfl (kc rfl (kc rfl kn)))) (kc rfl kn) (sqn (ecF rfl (eskip (sqn (eseq (ereg (hldo (y:=.agg a.cs) rfl b2 rfl ?_)))))))
 refine hcall J J J (children_c _ _) ?_
 rintro _ _ ⟨rfl,hq⟩
 obtain rfl:=hq.symm
 refine qp rfl (qp rfl (qp rfl (qp rfl (qp rfl (qk (kc rfl (kc rfl (kc rfl (kc rfl (kc rfl kn))))) (kc rfl kn) (sqn (eseq (ereg (qp rfl (hsto (cs':=NodeRow a.op a.n a.ty (.slice .full 5 []) (SL 7 (a.brs.map Br.enc))) rfl rfl b2 rfl (Nlb rfl) (by simp) rfl (qp rfl (hsto (cs':=NodeRow a.op a.n a.ty (.slice .full 5 []) (.slice .full 7 [])) rfl rfl set_ob rfl (Nlb rfl) (by simp) rfl ?_))))))))))))
 have R3:=(R2.obj off (.row (NodeRow a.op a.n a.ty (.slice .full 5 []) (SL 7 (a.brs.map Br.enc))))).obj off (.row (NodeRow a.op a.n a.ty (.slice .full 5 []) (.slice .full 7 [])))
 have k3:=(k2.set (i:=s.nx) (fun h=>absurd h (Nat.lt_irrefl _)) (.row (NodeRow a.op a.n a.ty (.slice .full 5 []) (SL 7 (a.brs.map Br.enc))))).set (i:=s.nx) (fun h=>absurd h (Nat.lt_irrefl _)) (.row (NodeRow a.op a.n a.ty (.slice .full 5 []) (.slice .full 7 [])))
 have b3:((S2.set s.nx (.row (NodeRow a.op a.n a.ty (.slice .full 5 []) (SL 7 (a.brs.map Br.enc))))).set s.nx (.row (NodeRow a.op a.n a.ty (.slice .full 5 []) (.slice .full 7 [])))).ob s.nx=some (.row (NodeRow a.op a.n a.ty (.slice .full 5 []) (.slice .full 7 []))):=set_ob
 generalize hS3:(S2.set s.nx (.row (NodeRow a.op a.n a.ty (.slice .full 5 []) (SL 7 (a.brs.map Br.enc))))).set s.nx (.row (NodeRow a.op a.n a.ty (.slice .full 5 []) (.slice .full 7 [])))=S3 at R3 k3 b3 ⊢
 have x3:S3.nx=s.nx + 1:=by rw [← hS3];exact x2
 have sb0:=sa_init (K:=K) (xs:=kidsA a) R3 hP b3 (by omega)
 refine qk (kc rfl (kc rfl (kc rfl (kc rfl (kc rfl kn))))) (kc rfl kn) (sqn (eseq (ereg (qp rfl (qk (kc rfl (kc rfl (kc rfl (kc rfl (kc rfl (kc rfl kn)))))) (kc rfl kn) (sqn (eseq (eseq (ereg (qp rfl (hldo (y:=I a.op) rfl b3 rfl ?_)))))))))))
 refine qp J (qb ?_)
 rintro (_ | _) h13
 refine qp rfl (qg rfl (qp rfl (qg rfl (hldo (y:=I a.op) rfl b3 rfl ?_))))
 refine qg J (qp J (qb ?_))
 rintro (_ | _) h14
 refine qp J (qn (kq7 J) (kq1 J) (ecF J (eskip (sqn (eseq (er (pq3 J (qn (kq8 J) (kq1 J) (eblock ?_)))))))))
 first
 | refine sub_l1 j T L K _ s.nx off a x _ (fun w v y hy=>by
    unfold putG at hy
    split at hy
    ·cases hy;exact hK
    exact hM w v y hy) _ (l - 1) (by omega) _ (.slice .full 7 []) (kidsA a) (by omega) (fun d hd=>H1 d (kidsA_sub a d hd)) (fun w=>by have:=hc w;rw [hbd,if_pos hob] at this;simp only [List.length_singleton];omega) (by omega) _ _ 0 (Nat.zero_le _) [] (.slice .full 5 []) _ (l - 1) sa0 ?_
 | refine sub_l1 j T L K _ s.nx off a a.n M hM pp (l - 1) (by omega) c (.slice .full 7 []) (kidsA a) (by omega) (fun d hd=>H1 d (kidsA_sub a d hd)) (fun w=>by have:=hc w;omega) (by omega) _ _ 0 (Nat.zero_le _) [] (.slice .full 5 []) pp (l - 1) sb0 ?_
 intro k1 zs vA q2 l2 S6 hA
 refine bqx (sqn (er (qp J ?_)))
 first
 | (refine hcall rfl rfl rfl (undn_c _ j T q2 l2 b4 b8 ad (by rw [al];simp) _ hA.rn (ub5.keep hA.ch.c (fun e=>e.elim (nX _ (by omega)) (by omega)) (fun e=>e.elim (nX _ (by omega)) (by omega)))) ?_
    rintro _ S7 ⟨rfl,R7,k7⟩
    rw [ud] at R7)
 | (refine hcall rfl rfl rfl (suc1_c _) ?_
    rintro _ _ ⟨rfl,hq⟩
    obtain rfl:=hq.symm
    have R7:=hA.rn
    have k7:Ch (fun i=>i=j.i0 ∨ i=j.i1) S6 S6:=Ch.refl _)
 have o7:=(k7.c.ob _ hA.bl (fun e=>nX _ (Nat.le_refl _) (.inr e))).trans hA.ob
 have sb1:=sb_init (K:=K) (xs:=kidsB a) R7 hA.po o7 (Nat.lt_of_lt_of_le hA.bl k7.c.nx)
 refine qn (kq4 J) (kq1 J) (eseq (er (pq3 J (qn (kq6 J) (kq1 J) (eblock ?_)))))
 have hAlo:=hA.lo
 have hAle:=hA.le
 rw [List.take_of_length_le (Nat.le_refl _)] at hAlo
 refine sub_l2 j T L K _ s.nx off a _ M hM q2 l2 (by omega) _ vA (kidsB a) (by omega) (fun d hd=>H2 d (kidsB_sub a d hd)) (fun w=>by
  have:=hc w
  rw [List.take_of_length_le (Nat.le_refl _)]
  first
  | (rw [hbd,if_pos hob] at this;simp only [List.length_singleton];omega)
  | omega) (by omega) 0 (Nat.zero_le _) [] (.slice .full 7 []) q2 l2 sb1 ?_
 intro k2 ws vB q3 l3 S8 hB
 refine bqx (sqn (eseq (ereg (hldo rfl hB.ob (y:=.agg _) rfl ?_))))
 refine hstl J J J J (Nlb J) (lq5 J) (qn (kq1 J) (kq1 J) ?_)
 first
 | refine eretz_loc rfl rfl ?_
 | (have we8:W.WE 5 vA (zs.map Node.enc) S8:=we_mono hA.we (fun g hg=>(hB.ch.mu g (Nat.lt_of_lt_of_le (we_lt hA.we g hg) k7.mn)).trans (k7.mu g (we_lt hA.we g hg))) (Nat.le_trans k7.mn hB.ch.mn)
    obtain ⟨oA,oB,mz,z1,z2⟩:=frz_two (op:=a.op) (ty:=a.ty) we8 hB.we (fun g hg hg2=>by have:=hB.tk g hg;have:=we_lt hA.we g hg2;have:=k7.mn;omega)
    refine eretz_loc rfl z1 ?_)
 refine fqr J ?_
 rotate_left
 refine qp J (qn (kq7 J) (kq1 J) (ecT J (er (qp J (qn (kq5 J) (kq1 J) (er (pq2 J ?_)))))))
 have hob:a.op=3 ∨ a.op=7:=by
  first
  | (refine .inl (Odt ?_);assumption)
  | (refine .inr (Odt ?_);assumption)
 refine hldo (y:=I a.n) rfl b3 rfl ?_
 refine hbsl J J (lq1 J) (qp J ?_)
 refine hcall rfl rfl rfl (under_c S3 j T L hL (l - 1) c M pp [a.n] [decide (a.op=3)] (by simp) (fun w=>by have:=hc w;rw [hbd,if_pos hob] at this;simp only [List.length_singleton];omega) (by simp) N65_ s.nx _ b3 (by omega) (nX _ (Nat.le_refl _)) (fun i d S' hd hx=>by
  cases i with
  | zero =>
    cases hd
    exact suc2_c S' _ _ _ _ _ _ hx _
  | succ i=>simp at hd) R3 hP) ?_
 rintro _ S4 ⟨names,M1,q1,b4,b8,ad,rfl,un,R4,P4,ud,al,nl,ub,k4,g3,g8⟩
 rw [Und] at un
 obtain ⟨x,p1,names',fx,rfl,un⟩:=un
 rw [Und] at un
 obtain ⟨rfl,rfl,rfl⟩:=un
 have o4:=(k4.c.ob _ (by omega) (nX _ (Nat.le_refl _))).trans b3
 have x4:=k4.c.nx
 refine qp rfl (qp rfl (qp rfl (qp rfl (qp rfl (qk (kc rfl (kc rfl (kc rfl (kc rfl (kc rfl (kc rfl (kc rfl kn))))))) (kc rfl kn) (sqn (ereg (qp rfl (hia (y:=I x) rfl rfl (by omega) rfl rfl (W.hldR (y:=I x) rfl (.inl rfl) rfl (qp rfl (hsto (cs':=NodeRow a.op x a.ty (.slice .full 5 []) (.slice .full 7 [])) rfl rfl o4 rfl (Nlb rfl) (by simp) rfl ?_))))))))))))
 have R5:=R4.obj off (.row (NodeRow a.op x a.ty (.slice .full 5 []) (.slice .full 7 [])))
 have k5:=(k3.trans k4).set (i:=s.nx) (fun h=>absurd h (Nat.lt_irrefl _)) (.row (NodeRow a.op x a.ty (.slice .full 5 []) (.slice .full 7 [])))
 have ub5:=ub.keep (Y:=fun i=>i=s.nx) ((Chg.refl S4).set (i:=s.nx) (o:=.row (NodeRow a.op x a.ty (.slice .full 5 []) (.slice .full 7 []))) fun _=>rfl) (by omega) (by omega)
 have sa0:=sa_init (K:=K) (xs:=kidsA a) (vB:=.slice .full 7 []) R5 P4 set_ob (by show s.nx < S4.nx;omega)
 refine qn (kq6 J) (kq1 J) (eseq (er (pq3 J (qn (kq8 J) (kq1 J) (eblock ?_)))))
 first
 | refine sub_l1 j T L K _ s.nx off a x _ (fun w v y hy=>by
    unfold putG at hy
    split at hy
    ·cases hy;exact hK
    exact hM w v y hy) _ (l - 1) (by omega) _ (.slice .full 7 []) (kidsA a) (by omega) (fun d hd=>H1 d (kidsA_sub a d hd)) (fun w=>by have:=hc w;rw [hbd,if_pos hob] at this;simp only [List.length_singleton];omega) (by omega) _ _ 0 (Nat.zero_le _) [] (.slice .full 5 []) _ (l - 1) sa0 ?_
 | refine sub_l1 j T L K _ s.nx off a a.n M hM pp (l - 1) (by omega) c (.slice .full 7 []) (kidsA a) (by omega) (fun d hd=>H1 d (kidsA_sub a d hd)) (fun w=>by have:=hc w;omega) (by omega) _ _ 0 (Nat.zero_le _) [] (.slice .full 5 []) pp (l - 1) sb0 ?_
 intro k1 zs vA q2 l2 S6 hA
 refine bqx (sqn (er (qp J ?_)))
 first
 | (refine hcall rfl rfl rfl (undn_c _ j T q2 l2 b4 b8 ad (by rw [al];simp) _ hA.rn (ub5.keep hA.ch.c (fun e=>e.elim (nX _ (by omega)) (by omega)) (fun e=>e.elim (nX _ (by omega)) (by omega)))) ?_
    rintro _ S7 ⟨rfl,R7,k7⟩
    rw [ud] at R7)
 | (refine hcall rfl rfl rfl (suc1_c _) ?_
    rintro _ _ ⟨rfl,hq⟩
    obtain rfl:=hq.symm
    have R7:=hA.rn
    have k7:Ch (fun i=>i=j.i0 ∨ i=j.i1) S6 S6:=Ch.refl _)
 have o7:=(k7.c.ob _ hA.bl (fun e=>nX _ (Nat.le_refl _) (.inr e))).trans hA.ob
 have sb1:=sb_init (K:=K) (xs:=kidsB a) R7 hA.po o7 (Nat.lt_of_lt_of_le hA.bl k7.c.nx)
 refine qn (kq4 J) (kq1 J) (eseq (er (pq3 J (qn (kq6 J) (kq1 J) (eblock ?_)))))
 have hAlo:=hA.lo
 have hAle:=hA.le
 rw [List.take_of_length_le (Nat.le_refl _)] at hAlo
 refine sub_l2 j T L K _ s.nx off a _ M hM q2 l2 (by omega) _ vA (kidsB a) (by omega) (fun d hd=>H2 d (kidsB_sub a d hd)) (fun w=>by
  have:=hc w
  rw [List.take_of_length_le (Nat.le_refl _)]
  first
  | (rw [hbd,if_pos hob] at this;simp only [List.length_singleton];omega)
  | omega) (by omega) 0 (Nat.zero_le _) [] (.slice .full 7 []) q2 l2 sb1 ?_
 intro k2 ws vB q3 l3 S8 hB
 refine bqx (sqn (eseq (ereg (hldo rfl hB.ob (y:=.agg _) rfl ?_))))
 refine hstl J J J J (Nlb J) (lq5 J) (qn (kq1 J) (kq1 J) ?_)
 first
 | refine eretz_loc rfl rfl ?_
 | (have we8:W.WE 5 vA (zs.map Node.enc) S8:=we_mono hA.we (fun g hg=>(hB.ch.mu g (Nat.lt_of_lt_of_le (we_lt hA.we g hg) k7.mn)).trans (k7.mu g (we_lt hA.we g hg))) (Nat.le_trans k7.mn hB.ch.mn)
    obtain ⟨oA,oB,mz,z1,z2⟩:=frz_two (op:=a.op) (ty:=a.ty) we8 hB.we (fun g hg hg2=>by have:=hB.tk g hg;have:=we_lt hA.we g hg2;have:=k7.mn;omega)
    refine eretz_loc rfl z1 ?_)
 refine fqr J ?_
 rotate_left
 refine qp J (zq3 J (qp J (qn (kq7 J) (kq1 J) (ecT J (er (qp J (qn (kq5 J) (kq1 J) (er (pq2 J ?_)))))))))
 have hob:a.op=3 ∨ a.op=7:=by
  first
  | (refine .inl (Odt ?_);assumption)
  | (refine .inr (Odt ?_);assumption)
 refine hldo (y:=I a.n) rfl b3 rfl ?_
 refine hbsl J J (lq1 J) (qp J ?_)
 refine hcall rfl rfl rfl (under_c S3 j T L hL (l - 1) c M pp [a.n] [decide (a.op=3)] (by simp) (fun w=>by have:=hc w;rw [hbd,if_pos hob] at this;simp only [List.length_singleton];omega) (by simp) N65_ s.nx _ b3 (by omega) (nX _ (Nat.le_refl _)) (fun i d S' hd hx=>by
  cases i with
  | zero =>
    cases hd
    exact suc2_c S' _ _ _ _ _ _ hx _
  | succ i=>simp at hd) R3 hP) ?_
 rintro _ S4 ⟨names,M1,q1,b4,b8,ad,rfl,un,R4,P4,ud,al,nl,ub,k4,g3,g8⟩
 rw [Und] at un
 obtain ⟨x,p1,names',fx,rfl,un⟩:=un
 rw [Und] at un
 obtain ⟨rfl,rfl,rfl⟩:=un
 have o4:=(k4.c.ob _ (by omega) (nX _ (Nat.le_refl _))).trans b3
 have x4:=k4.c.nx
 refine qp rfl (qp rfl (qp rfl (qp rfl (qp rfl (qk (kc rfl (kc rfl (kc rfl (kc rfl (kc rfl (kc rfl (kc rfl kn))))))) (kc rfl kn) (sqn (ereg (qp rfl (hia (y:=I x) rfl rfl (by omega) rfl rfl (W.hldR (y:=I x) rfl (.inl rfl) rfl (qp rfl (hsto (cs':=NodeRow a.op x a.ty (.slice .full 5 []) (.slice .full 7 [])) rfl rfl o4 rfl (Nlb rfl) (by simp) rfl ?_))))))))))))
 have R5:=R4.obj off (.row (NodeRow a.op x a.ty (.slice .full 5 []) (.slice .full 7 [])))
 have k5:=(k3.trans k4).set (i:=s.nx) (fun h=>absurd h (Nat.lt_irrefl _)) (.row (NodeRow a.op x a.ty (.slice .full 5 []) (.slice .full 7 [])))
 have ub5:=ub.keep (Y:=fun i=>i=s.nx) ((Chg.refl S4).set (i:=s.nx) (o:=.row (NodeRow a.op x a.ty (.slice .full 5 []) (.slice .full 7 []))) fun _=>rfl) (by omega) (by omega)
 have sa0:=sa_init (K:=K) (xs:=kidsA a) (vB:=.slice .full 7 []) R5 P4 set_ob (by show s.nx < S4.nx;omega)
 refine qn (kq6 J) (kq1 J) (eseq (er (pq3 J (qn (kq8 J) (kq1 J) (eblock ?_)))))
 first
 | refine sub_l1 j T L K _ s.nx off a x _ (fun w v y hy=>by
    unfold putG at hy
    split at hy
    ·cases hy;exact hK
    exact hM w v y hy) _ (l - 1) (by omega) _ (.slice .full 7 []) (kidsA a) (by omega) (fun d hd=>H1 d (kidsA_sub a d hd)) (fun w=>by have:=hc w;rw [hbd,if_pos hob] at this;simp only [List.length_singleton];omega) (by omega) _ _ 0 (Nat.zero_le _) [] (.slice .full 5 []) _ (l - 1) sa0 ?_
 | refine sub_l1 j T L K _ s.nx off a a.n M hM pp (l - 1) (by omega) c (.slice .full 7 []) (kidsA a) (by omega) (fun d hd=>H1 d (kidsA_sub a d hd)) (fun w=>by have:=hc w;omega) (by omega) _ _ 0 (Nat.zero_le _) [] (.slice .full 5 []) pp (l - 1) sb0 ?_
 intro k1 zs vA q2 l2 S6 hA
 refine bqx (sqn (er (qp J ?_)))
 first
 | (refine hcall rfl rfl rfl (undn_c _ j T q2 l2 b4 b8 ad (by rw [al];simp) _ hA.rn (ub5.keep hA.ch.c (fun e=>e.elim (nX _ (by omega)) (by omega)) (fun e=>e.elim (nX _ (by omega)) (by omega)))) ?_
    rintro _ S7 ⟨rfl,R7,k7⟩
    rw [ud] at R7)
 | (refine hcall rfl rfl rfl (suc1_c _) ?_
    rintro _ _ ⟨rfl,hq⟩
    obtain rfl:=hq.symm
    have R7:=hA.rn
    have k7:Ch (fun i=>i=j.i0 ∨ i=j.i1) S6 S6:=Ch.refl _)
 have o7:=(k7.c.ob _ hA.bl (fun e=>nX _ (Nat.le_refl _) (.inr e))).trans hA.ob
 have sb1:=sb_init (K:=K) (xs:=kidsB a) R7 hA.po o7 (Nat.lt_of_lt_of_le hA.bl k7.c.nx)
 refine qn (kq4 J) (kq1 J) (eseq (er (pq3 J (qn (kq6 J) (kq1 J) (eblock ?_)))))
 have hAlo:=hA.lo
 have hAle:=hA.le
 rw [List.take_of_length_le (Nat.le_refl _)] at hAlo
 refine sub_l2 j T L K _ s.nx off a _ M hM q2 l2 (by omega) _ vA (kidsB a) (by omega) (fun d hd=>H2 d (kidsB_sub a d hd)) (fun w=>by
  have:=hc w
  rw [List.take_of_length_le (Nat.le_refl _)]
  first
  | (rw [hbd,if_pos hob] at this;simp only [List.length_singleton];omega)
  | omega) (by omega) 0 (Nat.zero_le _) [] (.slice .full 7 []) q2 l2 sb1 ?_
 intro k2 ws vB q3 l3 S8 hB
 refine bqx (sqn (eseq (ereg (hldo rfl hB.ob (y:=.agg _) rfl ?_))))
 refine hstl J J J J (Nlb J) (lq5 J) (qn (kq1 J) (kq1 J) ?_)
 first
 | refine eretz_loc rfl rfl ?_
 | (have we8:W.WE 5 vA (zs.map Node.enc) S8:=we_mono hA.we (fun g hg=>(hB.ch.mu g (Nat.lt_of_lt_of_le (we_lt hA.we g hg) k7.mn)).trans (k7.mu g (we_lt hA.we g hg))) (Nat.le_trans k7.mn hB.ch.mn)
    obtain ⟨oA,oB,mz,z1,z2⟩:=frz_two (op:=a.op) (ty:=a.ty) we8 hB.we (fun g hg hg2=>by have:=hB.tk g hg;have:=we_lt hA.we g hg2;have:=k7.mn;omega)
    refine eretz_loc rfl z1 ?_)
 refine fqr J ?_
 rotate_left
 refine qn (kq4 J) (kq1 J) (ecT J (er (hbuild J J (lq5 J) (hstl J J J J (Nlb J) (lq5 J) (qn (kq1 J) (kq1 J) ?_)))))
 first
 | refine eretz_loc rfl rfl ?_
 | (have we8:W.WE 5 vA (zs.map Node.enc) S8:=we_mono hA.we (fun g hg=>(hB.ch.mu g (Nat.lt_of_lt_of_le (we_lt hA.we g hg) k7.mn)).trans (k7.mu g (we_lt hA.we g hg))) (Nat.le_trans k7.mn hB.ch.mn)
    obtain ⟨oA,oB,mz,z1,z2⟩:=frz_two (op:=a.op) (ty:=a.ty) we8 hB.we (fun g hg hg2=>by have:=hB.tk g hg;have:=we_lt hA.we g hg2;have:=k7.mn;omega)
    refine eretz_loc rfl z1 ?_)
 refine sqr (fqr J ?_)
 rotate_left
 refine hal (dc (dc (dq16 J) J) J) (hstl J J J J (Nlb J) (lq5 J) (qp J (qn (kq5 J) (kq2 J) (er (qp J (qn (kq5 J) (kq2 J) (ecT J (er (hlda J J (lq5 J) ?_)))))))))
 obtain ⟨x,hx⟩:∃ x,M w a.n=some x:=Option.isSome_iff_exists.1 ‹_›
 have hxs:=hM w a.n x hx
 have hx5:AV.ers ([] ++ [AV.agg [a0,a1,a2,a3,a4]] ++ [])=[AV.agg x.cs]:=by
  rw [hx] at hz2
  have hz2:AV.ers [a0,a1,a2,a3,a4]=x.cs:=hz2
  show [AV.agg (AV.ers [a0,a1,a2,a3,a4])]=_
  rw [hz2]
 have hxn1:=nNodes_all x
 have hxn2:=nAll_sz x
 refine hcall J J hx5 (CSize_c _ x (by omega)) ?_
 rintro _ S1 ⟨rfl,m1⟩
 have k1:Ch j.X S0 S1:=MX.ch m1
 have R1:=R0.keep (Y:=fun _=>False) (MX.ch m1).c id (fun _=>id) (fun _=>id)
 refine qp rfl (qp rfl (qp rfl (qp rfl (qp rfl (qk (kc rfl (kc rfl (kc rfl (kc rfl kn)))) (kc rfl (kc rfl kn)) (sqn (eseq (eseq (ereg (qp rfl (qp rfl (qp rfl (hldo (y:=I l) rfl R1.hk rfl ?_)))))))))))))
 refine qp rfl (hsub (r:=l - nNodes x) rfl rfl (i64w (by omega)) (qp rfl (qp rfl (hsto (cs':=j.row pp (l - nNodes x)) rfl rfl R1.hk rfl (Nlb rfl) (by simp) rfl ?_))))
 have R2:=R1.row (p':=pp) (l':=l - nNodes x)
 have k2:=(k0.trans k1).set (i:=j.k) (fun _=>.inl rfl) (.row (j.row pp (l - nNodes x)))
 refine qk (kc rfl (kc rfl (kc rfl kn))) (kc rfl (kc rfl kn)) (sqn (eseq (ereg (qp rfl (qp rfl (qp rfl (hldo (y:=I (l - nNodes x)) rfl R2.hk rfl ?_)))))))
 refine qp J (qb ?_)
 rintro (_ | _) h15
 refine qn (kq3 J) (kq2 J) (ecF J (eskip (sqn (er (hlda J J (lq5 J) (hcall J J hx5 (Copied_c x (by omega) _) ?_))))))
 rintro _ _ ⟨rfl,hq⟩
 obtain rfl:=hq.symm
 refine hstl J J J J (Nlb J) (lq5 J) (qn (kq1 J) (kq1 J) ?_)
 first
 | refine eretz_loc rfl rfl ?_
 | (have we8:W.WE 5 vA (zs.map Node.enc) S8:=we_mono hA.we (fun g hg=>(hB.ch.mu g (Nat.lt_of_lt_of_le (we_lt hA.we g hg) k7.mn)).trans (k7.mu g (we_lt hA.we g hg))) (Nat.le_trans k7.mn hB.ch.mn)
    obtain ⟨oA,oB,mz,z1,z2⟩:=frz_two (op:=a.op) (ty:=a.ty) we8 hB.we (fun g hg hg2=>by have:=hB.tk g hg;have:=we_lt hA.we g hg2;have:=k7.mn;omega)
    refine eretz_loc rfl z1 ?_)
 refine sqr (fqr J ?_)
 rotate_left
 refine qn (kq3 J) (kq2 J) (ecT J (er (hbuild J J (lq5 J) (hstl J J J J (Nlb J) (lq5 J) (qn (kq1 J) (kq1 J) ?_)))))
 first
 | refine eretz_loc rfl rfl ?_
 | (have we8:W.WE 5 vA (zs.map Node.enc) S8:=we_mono hA.we (fun g hg=>(hB.ch.mu g (Nat.lt_of_lt_of_le (we_lt hA.we g hg) k7.mn)).trans (k7.mu g (we_lt hA.we g hg))) (Nat.le_trans k7.mn hB.ch.mn)
    obtain ⟨oA,oB,mz,z1,z2⟩:=frz_two (op:=a.op) (ty:=a.ty) we8 hB.we (fun g hg hg2=>by have:=hB.tk g hg;have:=we_lt hA.we g hg2;have:=k7.mn;omega)
    refine eretz_loc rfl z1 ?_)
 refine sqr (sqr (fqr J ?_))
 rotate_left
 all_goals
  first
  | exact sub_end (d:=0) hK off (by omega) k3 hA k7 hB z2 (sub_gen (of_decide_eq_false h4) (of_decide_eq_false h5) (by simp_all))
  | exact sub_end hK off (by rw [hbd,if_pos hob];exact Nat.le_refl _) k5 hA k7 hB z2 (sub_bnd hob fx)
  | exact hfin _ z0 _ _ (Int.natCast_nonneg (nNodes x)) rfl (by omega) (Odt ‹_›) R2 k2 rfl
  | exact hfin 1 z0 _ _ (by decide) rfl (by omega) (Odt ‹_›) R2 k2 rfl
  | exact sub_end (d:=0) hK off (by omega) k3 hA k7 hB z2 (sub_gen (fun e=>by omega) (fun e=>by omega) fun _=>by
     have e:(M w a.n).isSome=false:=by assumption
     rw [← hw2]
     exact Option.not_isSome_iff_eq_none.1 (by rw [e];decide))
  | exact ⟨cpN x,pp,l - nNodes x,rfl,R2,hP.up (by omega),by omega,by omega,fun _=>sub_hit hop hw2 hx,Nat.le_trans (cp_sz x) (by omega),k2⟩
  | skip
end Go.Sim.Kd
