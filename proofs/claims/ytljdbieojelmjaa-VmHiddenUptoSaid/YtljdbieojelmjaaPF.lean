/-
  A part of a proof: see the last text of this claim.
-/
import Derived.Test.YtljdbieojelmjaaPE
set_option linter.unusedVariables false
set_option linter.unusedSimpArgs false
namespace Go.Sim.W
open Go Go.Sim
theorem flat_len {sz:Nat} {xs:List AV} (h:∀ x ∈ xs,x.cells.length=sz):(flat xs).length=xs.length * sz:=by
 induction xs with
 | nil=>simp [flat]
 | cons x l ih =>
   have e:flat (x :: l)=x.cells ++ flat l:=rfl
   rw [e,List.length_append,h x (by simp),ih fun y hy=>h y (by simp [hy]),List.length_cons,Nat.add_mul,Nat.one_mul,Nat.add_comm]
theorem flat_app (xs ys:List AV):flat (xs ++ ys)=flat xs ++ flat ys:=by simp [flat]
theorem flat_drop {sz:Nat} {xs:List AV} (h:∀ x ∈ xs,x.cells.length=sz) (r:Nat):(flat xs).drop (r * sz)=flat (xs.drop r):=by
 induction xs generalizing r with
 | nil=>simp [flat]
 | cons x l ih =>
   cases r with
   | zero=>simp
   | succ r =>
     have e:flat (x :: l)=x.cells ++ flat l:=rfl
     have hl:x.cells.length=sz:=h x (by simp)
     rw [e,List.drop_succ_cons,← ih (fun y hy=>h y (by simp [hy])) r,List.drop_append,show (r + 1) * sz=x.cells.length + r * sz from by rw [hl,Nat.add_mul,Nat.one_mul,Nat.add_comm]]
     rw [List.drop_eq_nil_of_le (by omega),List.nil_append,Nat.add_sub_cancel_left]
theorem flat_take {sz:Nat} {xs:List AV} (h:∀ x ∈ xs,x.cells.length=sz) (r:Nat):(flat xs).take (r * sz)=flat (xs.take r):=by
 induction xs generalizing r with
 | nil=>simp [flat]
 | cons x l ih =>
   cases r with
   | zero=>simp [flat]
   | succ r =>
     have e:∀ m,flat (x :: m)=x.cells ++ flat m:=fun _=>rfl
     have hl:x.cells.length=sz:=h x (by simp)
     rw [e,List.take_succ_cons,e,← ih (fun y hy=>h y (by simp [hy])) r,List.take_append,show (r + 1) * sz=x.cells.length + r * sz from by rw [hl,Nat.add_mul,Nat.one_mul,Nat.add_comm]]
     rw [List.take_of_length_le (by omega),Nat.add_sub_cancel_left]
theorem flat_set {sz:Nat} {xs:List AV} {y:AV} (h:∀ x ∈ xs,x.cells.length=sz) (hy:y.cells.length=sz) {r:Nat} (hr:r < xs.length):wr (flat xs) (r * sz) y.cells=flat (xs.set r y):=by
 unfold wr
 rw [flat_take h,show r * sz + y.cells.length=(r + 1) * sz from by rw [hy,Nat.add_mul,Nat.one_mul],flat_drop h,List.set_eq_take_append_cons_drop,if_pos hr,flat_app]
 rw [show flat (y :: xs.drop (r + 1))=y.cells ++ flat (xs.drop (r + 1)) from rfl,List.append_assoc]
structure MX (X:List Nat) (S S':Sg):Prop where
 ob:S'.ob=S.ob
 nx:S'.nx=S.nx
 gn:S'.gn=S.gn
 gl:S'.gl=S.gl
 Q:S'.Q=S.Q
 mn:S.mn ≤ S'.mn
 mu:∀ g,g < S.mn → g ∉ X → S'.mu g=S.mu g
theorem MX.refl (X:List Nat) (S:Sg):MX X S S:=⟨rfl,rfl,rfl,rfl,rfl,Nat.le_refl _,fun _ _ _=>rfl⟩
theorem MX.ext {X:List Nat} {S S':Sg} (h:MX X S S'):Ext S S':=⟨Nat.le_of_eq h.nx.symm,fun _ _=>by rw [h.ob],Nat.le_of_eq h.gn.symm,fun _ _=>by rw [h.gl],h.Q⟩
theorem MX.trans {X Y:List Nat} {A B C:Sg} (h:MX X A B) (k:MX Y B C) (hY:∀ g ∈ Y,g ∈ X ∨ A.mn ≤ g):MX X A C :=
 ⟨k.ob.trans h.ob,k.nx.trans h.nx,k.gn.trans h.gn,k.gl.trans h.gl,k.Q.trans h.Q,Nat.le_trans h.mn k.mn,fun g hg hx=>(k.mu g (Nat.lt_of_lt_of_le hg h.mn) fun hy=>(hY g hy).elim hx fun h2=>by omega).trans (h.mu g hg hx)⟩
theorem WL.mx {sz n:Nat} {v:AV} {cs:List AV} {X:List Nat} {S S':Sg} (h:WL sz v n cs S) (k:MX X S S') (hX:∀ g ∈ tk v,g ∉ X):WL sz v n cs S' :=
 h.mono (fun g hg=>k.mu g (h.lt g hg) (hX g hg)) k.mn
theorem WL.len {sz n:Nat} {v:AV} {cs:List AV} {S:Sg} (h:WL sz v n cs S):lenOfA false v=some (I n):=by
 rcases h.2 with ⟨rfl,rfl⟩ | ⟨g,rfl,_⟩ <;> rfl
theorem appm_w {sz by_ n k:Nat} {b x:AV} {cs ys:List AV} {S:Sg} (hb:WL sz b n cs S) (hx:srcOf sz S x=some (k,ys)) (hk:ys.length=k * sz) (h:(n + k) * by_ ≤ 2 ^ 47) :
 ∃ b' S',wopOf (.appm sz by_) S [b,x]=some (b',S') ∧ WL sz b' (n + k) (cs ++ ys) S' ∧ MX (tk b) S S' ∧ ∀ g ∈ tk b',g ∈ tk b ∨ S.mn ≤ g:=by
 obtain ⟨hl,hb⟩:=hb
 rcases hb with ⟨rfl,rfl⟩ | ⟨g,rfl,h1,h2⟩
 ·rw [Nat.zero_mul] at hl
  rw [Nat.zero_add] at h
  obtain rfl:cs=[]:=List.length_eq_zero_iff.1 hl
  by_cases hz:k=0
  ·subst hz
   rw [Nat.zero_mul] at hk
   obtain rfl:ys=[]:=List.length_eq_zero_iff.1 hk
   exact ⟨.slice .full sz [],S,by simp only [wopOf,nilS,appmOf,hx,Obs,if_true];rw [if_pos h],⟨by simp,.inl ⟨rfl,rfl⟩⟩,MX.refl _ _,fun g hg=>by cases hg⟩
  refine ⟨.ms S.mn 0 k sz,{ S with mu:=upd S.mu S.mn (some ys),mn:=S.mn + 1 },by simp only [wopOf,nilS,appmOf,hx,Obs,if_true];rw [if_pos h,if_neg hz],⟨by simp [hk],.inr ⟨S.mn,by rw [Nat.zero_add],upd_same _ _ _,Nat.lt_succ_self _⟩⟩,
   ⟨rfl,rfl,rfl,rfl,rfl,Nat.le_succ _,fun g hg _=>upd_ne _ _ (by omega)⟩,fun g hg=>.inr (by rw [List.mem_singleton.1 hg];exact Nat.le_refl _)⟩
 by_cases hz:k=0
 ·subst hz
  rw [Nat.zero_mul] at hk
  obtain rfl:ys=[]:=List.length_eq_zero_iff.1 hk
  exact ⟨.ms g 0 n sz,S,by simp only [wopOf,nilS,appmOf,hx,Obs,h1,if_true,true_and];rw [if_pos ⟨hl,h⟩],⟨by simpa using hl,.inr ⟨g,rfl,by simpa using h1,h2⟩⟩,MX.refl _ _,fun g hg=>.inl hg⟩
 refine ⟨.ms S.mn 0 (n + k) sz,{ S with mu:=upd (upd S.mu g none) S.mn (some (cs ++ ys)),mn:=S.mn + 1 },by simp only [wopOf,nilS,appmOf,hx,Obs,h1,if_true,true_and];rw [if_pos ⟨hl,h⟩,if_neg hz],
  ⟨by rw [List.length_append,hl,hk,Nat.add_mul],.inr ⟨S.mn,rfl,upd_same _ _ _,Nat.lt_succ_self _⟩⟩,⟨rfl,rfl,rfl,rfl,rfl,Nat.le_succ _,fun g' hg hx=>?_⟩,fun g' hg=>.inr (by rw [List.mem_singleton.1 hg];exact Nat.le_refl _)⟩
 show upd (upd S.mu g none) S.mn _ g'=_
 rw [upd_ne _ _ (by omega),upd_ne _ _ (by simpa [tk] using hx)]
def RL (sz:Nat) (v:AV) (xs:List AV) (S:Sg):Prop:=(∀ x ∈ xs,x.cells.length=sz) ∧ ((∃ o,v=.slice o sz xs) ∨ ∃ g off cs,v=.ms g off xs.length sz ∧ S.mu g=some cs ∧ g < S.mn ∧ off + xs.length * sz ≤ cs.length ∧ (cs.drop off).take (xs.length * sz)=flat xs)
theorem RL.len {sz:Nat} {v:AV} {xs:List AV} {S:Sg} (h:RL sz v xs S):lenOfA false v=some (I xs.length):=by
 rcases h.2 with ⟨o,rfl⟩ | ⟨g,off,cs,rfl,_⟩ <;> rfl
theorem RL.src {sz:Nat} {v:AV} {xs:List AV} {S:Sg} (h:RL sz v xs S):srcOf sz S v=some (xs.length,flat xs):=by
 rcases h.2 with ⟨o,rfl⟩ | ⟨g,off,cs,rfl,h1,_,h2,h3⟩
 ·simp [srcOf]
 simp [srcOf,h1,h2,h3]
theorem RL.mono {sz:Nat} {v:AV} {xs:List AV} {S S':Sg} (h:RL sz v xs S) (hm:∀ g ∈ tk v,g < S.mn → S'.mu g=S.mu g) (hn:S.mn ≤ S'.mn):RL sz v xs S':=by
 refine ⟨h.1,h.2.imp id ?_⟩
 rintro ⟨g,off,cs,rfl,h1,h2,h3⟩
 exact ⟨g,off,cs,rfl,(hm g (by simp [tk]) h2).trans h1,Nat.lt_of_lt_of_le h2 hn,h3⟩
theorem RL.mx {sz:Nat} {v:AV} {xs:List AV} {X:List Nat} {S S':Sg} (h:RL sz v xs S) (k:MX X S S') (hX:∀ g ∈ tk v,g ∉ X):RL sz v xs S' :=
 h.mono (fun g hg hl=>k.mu g hl (hX g hg)) k.mn
theorem RL.flen {sz:Nat} {v:AV} {xs:List AV} {S:Sg} (h:RL sz v xs S):(flat xs).length=xs.length * sz:=flat_len h.1
abbrev WE (sz:Nat) (v:AV) (xs:List AV) (S:Sg):Prop:=WL sz v xs.length (flat xs) S
theorem WL.rl {sz:Nat} {v:AV} {xs:List AV} {S:Sg} (h:WE sz v xs S) (hx:∀ x ∈ xs,x.cells.length=sz):RL sz v xs S:=by
 refine ⟨hx,?_⟩
 rcases h.2 with ⟨h0,rfl⟩ | ⟨g,rfl,h1,h2⟩
 ·rw [List.length_eq_zero_iff.1 h0]
  exact .inl ⟨_,rfl⟩
 exact .inr ⟨g,0,_,rfl,h1,h2,by rw [h.1,Nat.zero_add];exact Nat.le_refl _,by rw [List.drop_zero,List.take_of_length_le (Nat.le_of_eq h.1)]⟩
def PT (q:AV) (cs:List AV) (k:Nat) (S:Sg):Prop:=q=.cptr cs k ∨ ∃ g off c,q=.mp g (off + k) ∧ S.mu g=some c ∧ off + cs.length ≤ c.length ∧ (c.drop off).take cs.length=cs
theorem RL.at_ {sz:Nat} {v:AV} {xs:List AV} {S:Sg} (h:RL sz v xs S) {j:Int} {y:AV} (h0:0 ≤ j) (hy:xs[j.toNat]?=some y):∃ q,iaOf sz j v=some q ∧ PT q y.cells 0 S:=by
 have hj:j.toNat < xs.length:=by
  rcases Nat.lt_or_ge j.toNat xs.length with h | h
  ·exact h
  rw [List.getElem?_eq_none h] at hy;cases hy
 have hc:y.cells.length=sz:=h.1 y (Lmg hy)
 rcases h.2 with ⟨o,rfl⟩ | ⟨g,off,cs,rfl,h1,_,h2,h3⟩
 ·exact ⟨.cptr y.cells 0,by simp only [iaOf];rw [if_pos ⟨trivial,h0⟩,hy];rfl,.inl rfl⟩
 have hle:(j.toNat + 1) * sz ≤ xs.length * sz:=Nat.mul_le_mul_right _ hj
 rw [Nat.add_mul,Nat.one_mul] at hle
 refine ⟨.mp g (off + j.toNat * sz),by simp only [iaOf];rw [if_pos ⟨trivial,h0,hj⟩],.inr ⟨g,off + j.toNat * sz,cs,rfl,h1,by omega,?_⟩⟩
 have e:((cs.drop off).take (xs.length * sz)).drop (j.toNat * sz)=flat (xs.drop j.toNat):=by rw [h3,flat_drop h.1]
 have e2:flat (xs.drop j.toNat)=y.cells ++ flat (xs.drop (j.toNat + 1)):=by rw [drop_cons hy];rfl
 rw [e2,List.drop_take,List.drop_drop] at e
 have e3:=congrArg (List.take y.cells.length) e
 rw [List.take_left,List.take_take,Nat.min_eq_left (by omega)] at e3
 rw [hc] at e3 ⊢
 exact e3
theorem PT.fa {q:AV} {cs:List AV} {k:Nat} {S:Sg} (h:PT q cs k S) (m:Nat):∃ q',faOf m (.val q)=some (.val q') ∧ PT q' cs (k + m) S:=by
 rcases h with rfl | ⟨g,off,c,rfl,h⟩
 ·exact ⟨_,rfl,.inl rfl⟩
 exact ⟨_,rfl,.inr ⟨g,off,c,by rw [Nat.add_assoc],h⟩⟩
theorem PT.ld {q:AV} {cs:List AV} {k:Nat} {S:Sg} (h:PT q cs k S) {m:Option Nat} {y:AV} (hr:rd m cs k=some y) (E:Nat → Option TV) (L:Nat → Option (List AV)) (n:Nat) (w:Nat → Bool) (D:List (Nat × List AV)) :
 ldAt ⟨E,L,n,w,D,S⟩ true m (.val q)=some y:=by
 rcases h with rfl | ⟨g,off,c,rfl,h1,h2,h3⟩
 ·exact hr
 simp only [ldAt,if_true,h1,Obs]
 cases m with
 | none =>
   simp only [rd] at hr ⊢
   have hk:k < cs.length:=by
    rcases Nat.lt_or_ge k cs.length with h | h
    ·exact h
    rw [List.getElem?_eq_none h] at hr;cases hr
   rw [← h3,List.getElem?_take,if_pos hk,List.getElem?_drop] at hr
   exact hr
 | some n =>
   simp only [rd] at hr ⊢
   split at hr
   ·rename_i hk
    cases hr
    rw [if_pos (by omega)]
    refine congrArg (fun x=>some (AV.agg x)) ?_
    conv=>rhs;rw [← h3]
    rw [List.drop_take,List.drop_drop,List.take_take,Nat.min_eq_left (by omega)]
   cases hr
section
variable {c:Caller} {l:List AIns} {E:Nat → Option TV} {L:Nat → Option (List AV)} {n:Nat} {v:Nat → Bool} {D:List (Nat × List AV)} {S:Sg} {Q:Fr → Prop}
theorem hiaR {d sz:Nat} {x i:AO} {a q:AV} {kk:IntKind} {j:Int} (h1:evV E x=some a) (h2:evV E i=some (.lit (.int kk j))) (h3:iaOf sz j a=some q)
 (k:HL c l ⟨upd E d (some (.val q)),L,n,v,D,S⟩ Q):HL c (⟨some d,none,.ia sz x i⟩ :: l) ⟨E,L,n,v,D,S⟩ Q :=
 hop (by simp only [ins,run1,aop,h1,h2,Obs,asN,h3];rfl) k
theorem hfaR {d m:Nat} {a:AO} {t t':TV} (h1:ev E a=some t) (h2:faOf m t=some t') (k:HL c l ⟨upd E d (some t'),L,n,v,D,S⟩ Q):HL c (⟨some d,none,.fa m a⟩ :: l) ⟨E,L,n,v,D,S⟩ Q :=
 hop (by simp only [ins,run1,aop,h1,h2,Obs];rfl) k
theorem hldR {d k:Nat} {m:Option Nat} {a:AO} {q y:AV} {cs:List AV} (h1:ev E a=some (.val q)) (h2:PT q cs k S) (h3:rd m cs k=some y)
 (k:HL c l ⟨upd E d (some (.val y)),L,n,v,D,S⟩ Q):HL c (⟨some d,none,.ld true m a⟩ :: l) ⟨E,L,n,v,D,S⟩ Q :=
 hop (by simp only [ins,run1,aop,h1,h2.ld h3,Obs];rfl) k
theorem hldoF {d rt id off o:Nat} {m:Option Nat} {a:AO} {cs:List AV} {y:AV} (h0:E rt=some (.val (.ptr id o))) (h1:ev E a=some (.val (.ptr id off))) (h2:S.ob id=some (.row cs)) (h3:rd m cs off=some y)
 (k:HL c l ⟨upd E d (some (.val y)),L,n,v,D,S⟩ Q):HL c (⟨some d,none,.ldo false rt m a⟩ :: l) ⟨E,L,n,v,D,S⟩ Q :=
 hop (by simp only [ins,run1,aop,h0,h1,Obs,ldoAt,if_true,h2,h3];rfl) k
theorem hst3 {id off:Nat} {a x:AO} {y:AV} {cs cs':List AV} (h1:ev E a=some (.val (.ptr id off))) (h2:evV E x=some y) (h3:S.ob id=some (.row cs)) (c1:y.cells=[y]) (e1:y.erT=y) (ht:∀ t sz xs,y ≠ .slice (.tip t) sz xs) (h5:off + 1 ≤ cs.length) (h6:wr cs off y.cells=cs')
 (k:HL c l ⟨E,L,n,v,D,S.set id (.row cs')⟩ Q):HL c (⟨none,none,.st true 1 a x⟩ :: l) ⟨E,L,n,v,D,S⟩ Q :=
 hsto h1 h2 h3 (by rw [c1];rfl) (by rw [c1];exact h5) ht (by rw [e1];exact h6) k
theorem hslR {d sz:Nat} {x:AO} {lo hi mx:Option AO} {a r:AV} (h1:evV E x=some a) (h2:slOf sz ⟨E,L,n,v,D,S⟩ lo hi mx a=some r)
 (k:HL c l ⟨upd E d (some (.val r)),L,n,v,D,S⟩ Q):HL c (⟨some d,none,.sl sz x lo hi mx⟩ :: l) ⟨E,L,n,v,D,S⟩ Q :=
 hop (by simp only [ins,run1,aop,h1,h2,Obs];rfl) k
end
theorem hcallk {p:Pg} {E:Nat → Option TV} {L:Nat → Option (List AV)} {n:Nat} {v:Nat → Bool} {D:List (Nat × List AV)} {S:Sg} {l:List AIns} {Q:Fr → Prop} {d:Nat} {ks:List Nat} {f:AO} {as:List AO} {g:Nat} {a b q q':List AV} {R:List AV → Sg → Prop}
 (h1:evV E f=some (.fn g a b)) (h2:evVs E as=some q) (h3:AV.ers (a ++ q ++ b)=q') (h4:HC p g q' S R) (hq:∀ res S',R res S' → keeps E S S' ks) (k:∀ res S',R res S' → HL (callL p) l ⟨upd E d (some (toTV res)),L,n,v,D,S'⟩ Q) :
 HL (callL p) (⟨some d,none,.callq ks f as⟩ :: l) ⟨E,L,n,v,D,S⟩ Q:=by
 subst h3
 obtain ⟨res,S',h5,h6⟩:=h4
 refine hop ?_ (k res S' h6)
 simp only [ins,run1,aop,h1,h2,Obs,callOf,h5,qres]
 rw [if_pos (hq res S' h6)]
 rfl
def oC (o:HOb):List Word:=⟨false,o.tag⟩ :: o.fs
def oS (o:HOb):List Int:=(o.fs.length + 1:Int) :: List.replicate o.fs.length 0
def cellsF (obs:List HOb):List Word:=obs.flatMap oC
def sizesF (obs:List HOb):List Int:=obs.flatMap oS
def orderF (obs:List HOb):List Int:=obs.map HOb.at_
def addrs:Int → List HOb → Prop
 | _,[]=>True
 | a,o :: l=>o.at_=a ∧ addrs (a + (1 + o.fs.length)) l
theorem cells_len (obs:List HOb):(sizesF obs).length=(cellsF obs).length:=by
 induction obs with
 | nil=>rfl
 | cons o l ih=>simp only [sizesF,cellsF,List.flatMap_cons,List.length_append,oC,oS,List.length_cons,List.length_replicate] at ih ⊢;omega
theorem cells_cons (o:HOb) (l:List HOb):(cellsF (o :: l)).length=1 + o.fs.length + (cellsF l).length:=by
 simp only [cellsF,List.flatMap_cons,List.length_append,oC,List.length_cons];omega
theorem cells_app (l k:List HOb):cellsF (l ++ k)=cellsF l ++ cellsF k:=by simp [cellsF]
theorem addrs_app {a:Int} {l k:List HOb}:addrs a (l ++ k) ↔ addrs a l ∧ addrs (a + (cellsF l).length) k:=by
 induction l generalizing a with
 | nil=>simp [addrs,cellsF]
 | cons o l ih =>
   simp only [List.cons_append,addrs,ih,cells_cons,and_assoc]
   rw [show a + (1 + (o.fs.length:Int)) + ((cellsF l).length:Int)=a + ((1 + o.fs.length + (cellsF l).length:Nat):Int) from by omega]
theorem endF_eq {obs:List HOb} (h:addrs 0 obs):endF obs=(cellsF obs).length:=by
 rcases List.eq_nil_or_concat obs with rfl | ⟨l,o,rfl⟩
 ·rfl
 simp only [List.concat_eq_append] at h ⊢
 have h2:=(addrs_app.1 h).2.1
 rw [cells_app,List.length_append,cells_cons]
 simp only [endF,List.getLast?_append,List.getLast?_singleton,Option.some_or,h2]
 simp [cellsF]
def obAt (obs:List HOb) (x:Int):Option HOb:=obs.find? fun o=>decide (o.at_=x)
def hasF (obs:List HOb) (x:Int):Bool:=(obAt obs x).isSome
def validW (obs:List HOb) (l:List Word):Bool:=l.all fun w=>!(w.ref && !hasF obs w.n)
theorem findF_none {obs:List HOb} {x:Int} {i:Nat} (h:obAt obs x=none):findF x i obs=-1:=by
 induction obs generalizing i with
 | nil=>rfl
 | cons o l ih =>
   simp only [obAt,List.find?_cons] at h
   split at h
   ·cases h
   rename_i hn
   simp only [findF,if_neg (of_decide_eq_false hn)]
   exact ih h
theorem findF_some {obs:List HOb} {x:Int} {i:Nat} {o:HOb} (h:obAt obs x=some o):∃ k,findF x i obs=((i + k:Nat):Int) ∧ obs[k]?=some o:=by
 induction obs generalizing i with
 | nil=>cases h
 | cons o' l ih =>
   simp only [obAt,List.find?_cons] at h
   split at h
   ·rename_i hp
    cases h
    exact ⟨0,by simp only [findF,if_pos (Odt hp)];rfl,rfl⟩
   rename_i hn
   obtain ⟨k,h1,h2⟩:=ih (i:=i + 1) h
   exact ⟨k + 1,by simp only [findF,if_neg (of_decide_eq_false hn)];rw [h1];congr 1;omega,h2⟩
theorem validF_eq (obs:List HOb) (l:List Word):validF obs l=validW obs l:=by
 unfold validF validW
 congr 1
 funext w
 cases h:obAt obs w.n with
 | none=>simp [hasF,h,findF_none h]
 | some o =>
   obtain ⟨k,h1,_⟩:=findF_some (i:=0) h
   have h2:¬ findF w.n 0 obs < 0:=by omega
   simp [hasF,h,h2]
theorem obAt_at {obs:List HOb} {x:Int} {o:HOb} (h:obAt obs x=some o):o.at_=x:=by simpa [obAt] using List.find?_some h
theorem obAt_split {obs:List HOb} {x a:Int} {o:HOb} (ha:addrs a obs) (h:obAt obs x=some o):∃ l1 l2,obs=l1 ++ o :: l2 ∧ x=a + (cellsF l1).length:=by
 obtain ⟨l1,l2,rfl⟩:=List.append_of_mem (List.mem_of_find?_eq_some h)
 exact ⟨l1,l2,rfl,by rw [← obAt_at h];exact (addrs_app.1 ha).2.1⟩
theorem sizes_pos {obs:List HOb} {a:Int} (ha:addrs a obs) {k:Nat} {s:Int} (h:(sizesF obs)[k]?=some s) (hs:0 < s):∃ o,obAt obs (a + k)=some o:=by
 induction obs generalizing a k with
 | nil=>simp [sizesF] at h
 | cons o l ih =>
   simp only [obAt,List.find?_cons]
   split
   ·exact ⟨o,rfl⟩
   rename_i hn
   have hn:=of_decide_eq_false hn
   simp only [sizesF,List.flatMap_cons] at h
   rcases Nat.lt_or_ge k (oS o).length with hk | hk
   ·rw [List.getElem?_append_left hk] at h
    cases k with
    | zero=>exact absurd (by simpa using ha.1) hn
    | succ k =>
      simp only [oS,List.getElem?_cons_succ] at h
      have:=Lmg h
      have:=(List.mem_replicate.1 this).2
      omega
   rw [List.getElem?_append_right hk] at h
   have e:(oS o).length=1 + o.fs.length:=by simp [oS];omega
   obtain ⟨o',h'⟩:=ih ha.2 h
   rw [e] at h' hk
   rw [show a + (1 + (o.fs.length:Int)) + ((k - (1 + o.fs.length):Nat):Int)=a + k from by omega] at h'
   exact ⟨o',h'⟩
theorem hasF_eq {obs:List HOb} (ha:addrs 0 obs) (x:Int):hasF obs x=true ↔ 0 ≤ x ∧ ∃ s,(sizesF obs)[x.toNat]?=some s ∧ 0 < s:=by
 constructor
 ·intro h
  obtain ⟨o,ho⟩:=Option.isSome_iff_exists.1 h
  obtain ⟨l1,l2,rfl,hx⟩:=obAt_split ha ho
  refine ⟨by omega,o.fs.length + 1,?_,by omega⟩
  rw [show x.toNat=(sizesF l1).length from by rw [cells_len];omega]
  simp [sizesF,oS]
 rintro ⟨h0,s,h1,h2⟩
 obtain ⟨o,h⟩:=sizes_pos ha h1 h2
 rw [show (0:Int) + (x.toNat:Int)=x from by omega] at h
 rw [hasF,h]
 rfl
theorem obAt_cells {obs:List HOb} {x:Int} {o:HOb} (ha:addrs 0 obs) (h:obAt obs x=some o) :
 0 ≤ x ∧ (cellsF obs)[x.toNat]?=some ⟨false,o.tag⟩ ∧ (sizesF obs)[x.toNat]?=some (o.fs.length + 1:Int) ∧ x.toNat + 1 + o.fs.length ≤ (cellsF obs).length ∧ ((cellsF obs).drop (x.toNat + 1)).take o.fs.length=o.fs:=by
 obtain ⟨l1,l2,rfl,hx⟩:=obAt_split ha h
 have e:x.toNat=(cellsF l1).length:=by omega
 have e2:cellsF (l1 ++ o :: l2)=cellsF l1 ++ (⟨false,o.tag⟩ :: (o.fs ++ cellsF l2)):=by simp [cellsF,oC]
 refine ⟨by omega,by rw [e,e2];simp,?_,by rw [e,e2];simp;omega,?_⟩
 ·rw [e,← cells_len]
  simp [sizesF,oS]
 rw [e,e2,← List.drop_drop,List.drop_left]
 simp
def wcs (l:List Word):List AV:=l.map Word.enc
theorem wcs_sz (l:List Word):∀ x ∈ wcs l,x.cells.length=2:=by
 intro x hx
 obtain ⟨w,_,rfl⟩:=List.mem_map.1 hx
 rfl
theorem ints_sz (l:List Int):∀ x ∈ l.map I,x.cells.length=1:=by
 intro x hx
 obtain ⟨w,_,rfl⟩:=List.mem_map.1 hx
 rfl
def T3 (i:Nat) (pre:List AV) (c:List Word) (s o:List Int) (S:Sg):Prop :=
 ∃ vc vs vo,S.ob i=some (.row (pre ++ [vc,vs,vo])) ∧ i < S.nx ∧ WE 2 vc (wcs c) S ∧ WE 1 vs (s.map I) S ∧ WE 1 vo (o.map I) S ∧ (tks [vc,vs,vo]).Nodup
abbrev SP (i:Nat) (pre:List AV) (obs:List HOb) (S:Sg):Prop:=T3 i pre (cellsF obs) (sizesF obs) (orderF obs) S
theorem rd_pre (pre:List AV) (a b c:AV):rd none (pre ++ [a,b,c]) pre.length=some a ∧ rd none (pre ++ [a,b,c]) (pre.length + 1)=some b ∧ rd none (pre ++ [a,b,c]) (pre.length + 2)=some c:=by
 simp [rd,List.getElem?_append_right]
theorem wr_pre (pre:List AV) (a b c x:AV) (h:x.cells=[x]):wr (pre ++ [a,b,c]) pre.length x.cells=pre ++ [x,b,c] ∧ wr (pre ++ [a,b,c]) (pre.length + 1) x.cells=pre ++ [a,x,c] ∧ wr (pre ++ [a,b,c]) (pre.length + 2) x.cells=pre ++ [a,b,x]:=by
 rw [h]
 refine ⟨?_,?_,?_⟩
 ·simp [wr,List.drop_append]
 ·simp only [wr,List.length_cons,List.length_nil]
  rw [List.take_append,List.drop_append,List.take_of_length_le (by omega),List.drop_eq_nil_of_le (by omega),show pre.length + 1 - pre.length=1 from by omega,show pre.length + 1 + (0 + 1) - pre.length=2 from by omega]
  simp
 simp only [wr,List.length_cons,List.length_nil]
 rw [List.take_append,List.drop_append,List.take_of_length_le (by omega),List.drop_eq_nil_of_le (by omega),show pre.length + 2 - pre.length=2 from by omega,show pre.length + 2 + (0 + 1) - pre.length=3 from by omega]
 simp
theorem tks_app (a b:List AV):tks (a ++ b)=tks a ++ tks b:=by simp [tks]
theorem own_row {i:Nat} {row:List AV} {S:Sg} {g:Nat} (h:S.ob i=some (.row row)):own [i] S g ↔ g ∈ tks row:=by
 constructor
 ·rintro ⟨j,hj,r,h1,h2⟩
  obtain rfl:=List.mem_singleton.1 hj
  rw [h] at h1
  cases h1
  exact h2
 intro hg
 exact ⟨i,by simp,row,h,hg⟩
theorem T3.fin {i:Nat} {row row':List AV} {X:List Nat} {S S':Sg} (h0:S.ob i=some (.row row)) (hX:∀ g ∈ X,g ∈ tks row) (k:MX X S S') (hr:∀ g ∈ tks row',g ∈ tks row ∨ S.mn ≤ g):KX [i] S (S'.set i (.row row')):=by
 refine ⟨Nat.le_of_eq k.nx.symm,k.mn,Nat.le_of_eq k.gn.symm,fun g _=>by show S'.gl g=_;rw [k.gl],k.Q,fun j hj hx=>?_,fun g hg ho=>k.mu g hg fun hx=>ho ((own_row h0).2 (hX g hx)),fun g hg=>?_⟩
 ·show upd S'.ob i _ j=_
  rw [upd_ne _ _ (by simpa using hx),k.ob]
 have e:(S'.set i (.row row')).ob i=some (.row row'):=upd_same _ _ _
 rcases hr g ((own_row e).1 hg) with h | h
 ·exact .inl ((own_row h0).2 h)
 exact .inr h
end Go.Sim.W
namespace Go.Sim.W
open Go Go.Sim
theorem wcs_app (a b:List Word):wcs (a ++ b)=wcs a ++ wcs b:=List.map_append ..
theorem mapI_app (a b:List Int):(a ++ b).map I=a.map I ++ b.map I:=List.map_append ..
theorem RL.lt {sz:Nat} {v:AV} {xs:List AV} {S:Sg} (h:RL sz v xs S):∀ g ∈ tk v,g < S.mn:=by
 rcases h.2 with ⟨o,rfl⟩ | ⟨g,off,cs,rfl,_,h,_⟩
 ·intro g hg;cases hg
 intro g' hg
 rw [List.mem_singleton.1 hg]
 exact h
theorem RL.kx {sz:Nat} {v:AV} {xs:List AV} {X:List Nat} {S S':Sg} (h:RL sz v xs S) (k:KX X S S') (ho:∀ g ∈ tk v,¬ own X S g):RL sz v xs S' ∧ ∀ g ∈ tk v,¬ own X S' g :=
 ⟨h.mono (fun g hg hl=>k.mu g hl (ho g hg)) k.mn,fun g hg h2=>(k.own g h2).elim (ho g hg) fun h3=>by have:=h.lt g hg;omega⟩
theorem appm_e {sz by_:Nat} {b x:AV} {xs ys:List AV} {S:Sg} (hb:WE sz b xs S) (hx:RL sz x ys S) (h:(xs.length + ys.length) * by_ ≤ 2 ^ 47) :
 ∃ b' S',wopOf (.appm sz by_) S [b,x]=some (b',S') ∧ WE sz b' (xs ++ ys) S' ∧ MX (tk b) S S' ∧ ∀ g ∈ tk b',g ∈ tk b ∨ S.mn ≤ g:=by
 obtain ⟨b',S',h1,h2,h3⟩:=appm_w hb hx.src hx.flen h
 exact ⟨b',S',h1,by rw [WE,List.length_append,flat_app];exact h2,h3⟩
theorem RL.one {sz:Nat} {y:AV} {o:Own} {S:Sg} (h:y.cells.length=sz):RL sz (.slice o sz [y]) [y] S:=⟨fun x hx=>by rw [List.mem_singleton.1 hx];exact h,.inl ⟨o,rfl⟩⟩
theorem nd3 {m:Nat} {a b c x:AV} {S:Sg} (hnd:(tks [a,b,c]).Nodup):(tk a ++ (tk b ++ tk c)).Nodup:=by simpa [tks] using hnd
theorem tk_one (v:AV):tk v=[] ∨ ∃ g,tk v=[g]:=by cases v <;> first | exact .inl rfl | exact .inr ⟨_,rfl⟩
theorem tk_nd (v:AV):(tk v).Nodup:=by rcases tk_one v with h | ⟨g,h⟩ <;> rw [h] <;> simp
theorem WL.wlt {sz n:Nat} {v:AV} {cs:List AV} {S:Sg} (h:WL sz v n cs S) {g:Nat} (hg:g ∈ tk v):g < S.mn:=h.lt g hg
section
variable {i:Nat} {pre:List AV} {c:List Word} {z o:List Int} {S S1:Sg} {vc vs vo v':AV}
theorem T3.up0 {c':List Word} (hp:tks pre=[]) (g1:S.ob i=some (.row (pre ++ [vc,vs,vo]))) (g2:i < S.nx) (g4:WE 1 vs (z.map I) S) (g5:WE 1 vo (o.map I) S) (g6:(tks [vc,vs,vo]).Nodup)
 (w2:WE 2 v' (wcs c') S1) (w3:MX (tk vc) S S1) (w4:∀ g ∈ tk v',g ∈ tk vc ∨ S.mn ≤ g) :
 T3 i pre c' z o (S1.set i (.row (pre ++ [v',vs,vo]))) ∧ KX [i] S (S1.set i (.row (pre ++ [v',vs,vo]))):=by
 have e:∀ a b c:AV,tks [a,b,c]=tk a ++ (tk b ++ tk c):=fun a b c=>by simp [tks]
 rw [e] at g6
 obtain ⟨n1,n2,n3⟩:=List.nodup_append.1 g6
 have k4:=g4.mx w3 fun g hg hx=>n3 g hx g (by simp [hg]) rfl
 have k5:=g5.mx w3 fun g hg hx=>n3 g hx g (by simp [hg]) rfl
 refine ⟨⟨v',vs,vo,upd_same _ _ _,by show i < S1.nx;rw [w3.nx];exact g2,w2.mono (fun _ _=>rfl) (Nat.le_refl _),k4.mono (fun _ _=>rfl) (Nat.le_refl _),k5.mono (fun _ _=>rfl) (Nat.le_refl _),?_⟩,?_⟩
 ·rw [e]
  refine List.nodup_append.2 ⟨tk_nd _,n2,fun a ha b hb hab=>?_⟩
  subst hab
  rcases w4 a ha with h | h
  ·exact n3 a h a hb rfl
  rcases List.mem_append.1 hb with h' | h'
  ·have:=g4.wlt h';omega
  have:=g5.wlt h';omega
 refine T3.fin g1 (fun g hg=>by rw [tks_app,e];simp [hg]) w3 fun g hg=>?_
 rw [tks_app,hp,List.nil_append,e] at hg ⊢
 simp only [List.mem_append] at hg ⊢
 rcases hg with h | h | h
 ·exact (w4 g h).imp .inl id
 ·exact .inl (.inr (.inl h))
 exact .inl (.inr (.inr h))
theorem T3.up1 {z':List Int} (hp:tks pre=[]) (g1:S.ob i=some (.row (pre ++ [vc,vs,vo]))) (g2:i < S.nx) (g3:WE 2 vc (wcs c) S) (g5:WE 1 vo (o.map I) S) (g6:(tks [vc,vs,vo]).Nodup)
 (w2:WE 1 v' (z'.map I) S1) (w3:MX (tk vs) S S1) (w4:∀ g ∈ tk v',g ∈ tk vs ∨ S.mn ≤ g) :
 T3 i pre c z' o (S1.set i (.row (pre ++ [vc,v',vo]))) ∧ KX [i] S (S1.set i (.row (pre ++ [vc,v',vo]))):=by
 have e:∀ a b c:AV,tks [a,b,c]=tk a ++ (tk b ++ tk c):=fun a b c=>by simp [tks]
 rw [e] at g6
 obtain ⟨n1,n2,n3⟩:=List.nodup_append.1 g6
 obtain ⟨m1,m2,m3⟩:=List.nodup_append.1 n2
 have k4:=g3.mx w3 fun g hg hx=>n3 g hg g (by simp [hx]) rfl
 have k5:=g5.mx w3 fun g hg hx=>m3 g hx g hg rfl
 refine ⟨⟨vc,v',vo,upd_same _ _ _,by show i < S1.nx;rw [w3.nx];exact g2,k4.mono (fun _ _=>rfl) (Nat.le_refl _),w2.mono (fun _ _=>rfl) (Nat.le_refl _),k5.mono (fun _ _=>rfl) (Nat.le_refl _),?_⟩,?_⟩
 ·rw [e]
  refine List.nodup_append.2 ⟨n1,List.nodup_append.2 ⟨tk_nd _,m2,fun a ha b hb hab=>?_⟩,fun a ha b hb hab=>?_⟩
  ·subst hab
   rcases w4 a ha with h | h
   ·exact m3 a h a hb rfl
   have:=g5.wlt hb;omega
  subst hab
  rcases List.mem_append.1 hb with h | h
  ·rcases w4 a h with h | h
   ·exact n3 a ha a (by simp [h]) rfl
   have:=g3.wlt ha;omega
  exact n3 a ha a (by simp [h]) rfl
 refine T3.fin g1 (fun g hg=>by rw [tks_app,e];simp [hg]) w3 fun g hg=>?_
 rw [tks_app,hp,List.nil_append,e] at hg ⊢
 simp only [List.mem_append] at hg ⊢
 rcases hg with h | h | h
 ·exact .inl (.inl h)
 ·exact (w4 g h).imp (fun h=>.inr (.inl h)) id
 exact .inl (.inr (.inr h))
theorem T3.up2 {o':List Int} (hp:tks pre=[]) (g1:S.ob i=some (.row (pre ++ [vc,vs,vo]))) (g2:i < S.nx) (g3:WE 2 vc (wcs c) S) (g4:WE 1 vs (z.map I) S) (g6:(tks [vc,vs,vo]).Nodup)
 (w2:WE 1 v' (o'.map I) S1) (w3:MX (tk vo) S S1) (w4:∀ g ∈ tk v',g ∈ tk vo ∨ S.mn ≤ g) :
 T3 i pre c z o' (S1.set i (.row (pre ++ [vc,vs,v']))) ∧ KX [i] S (S1.set i (.row (pre ++ [vc,vs,v']))):=by
 have e:∀ a b c:AV,tks [a,b,c]=tk a ++ (tk b ++ tk c):=fun a b c=>by simp [tks]
 rw [e] at g6
 obtain ⟨n1,n2,n3⟩:=List.nodup_append.1 g6
 obtain ⟨m1,m2,m3⟩:=List.nodup_append.1 n2
 have k4:=g3.mx w3 fun g hg hx=>n3 g hg g (by simp [hx]) rfl
 have k5:=g4.mx w3 fun g hg hx=>m3 g hg g hx rfl
 refine ⟨⟨vc,vs,v',upd_same _ _ _,by show i < S1.nx;rw [w3.nx];exact g2,k4.mono (fun _ _=>rfl) (Nat.le_refl _),k5.mono (fun _ _=>rfl) (Nat.le_refl _),w2.mono (fun _ _=>rfl) (Nat.le_refl _),?_⟩,?_⟩
 ·rw [e]
  refine List.nodup_append.2 ⟨n1,List.nodup_append.2 ⟨m1,tk_nd _,fun a ha b hb hab=>?_⟩,fun a ha b hb hab=>?_⟩
  ·subst hab
   rcases w4 a hb with h | h
   ·exact m3 a ha a h rfl
   have:=g4.wlt ha;omega
  subst hab
  rcases List.mem_append.1 hb with h | h
  ·exact n3 a ha a (by simp [h]) rfl
  rcases w4 a h with h | h
  ·exact n3 a ha a (by simp [h]) rfl
  have:=g3.wlt ha;omega
 refine T3.fin g1 (fun g hg=>by rw [tks_app,e];simp [hg]) w3 fun g hg=>?_
 rw [tks_app,hp,List.nil_append,e] at hg ⊢
 simp only [List.mem_append] at hg ⊢
 rcases hg with h | h | h
 ·exact .inl (.inl h)
 ·exact .inl (.inr (.inl h))
 exact (w4 g h).imp (fun h=>.inr (.inr h)) id
end
theorem T3.kl {i:Nat} {pre:List AV} {c:List Word} {z o:List Int} {S S':Sg} {X:List Nat} (h:T3 i pre c z o S) (k:KL X S S') (hX:∀ g,own [i] S g → g ∉ X):T3 i pre c z o S':=by
 obtain ⟨vc,vs,vo,g1,g2,g3,g4,g5,g6⟩:=h
 have ho:∀ g ∈ tks [vc,vs,vo],g ∉ X:=fun g hg=>hX g ((own_row g1).2 (by rw [tks_app];simp [hg]))
 have m:∀ {sz n:Nat} {v:AV} {cs:List AV},WL sz v n cs S → (∀ g ∈ tk v,g ∈ tks [vc,vs,vo]) → WL sz v n cs S':=fun w hw=>w.mono (fun g hg=>k.mu g (w.lt g hg) (ho g (hw g hg))) k.mn
 exact ⟨vc,vs,vo,(k.e.ob i g2).trans g1,Nat.lt_of_lt_of_le g2 k.e.nx,m g3 (fun g h=>by simp [tks,h]),m g4 (fun g h=>by simp [tks,h]),m g5 (fun g h=>by simp [tks,h]),g6⟩
theorem T3.kx {i:Nat} {pre:List AV} {c:List Word} {z o:List Int} {S S':Sg} {Y:List Nat} (h:T3 i pre c z o S) (k:KX Y S S') (hi:i ∉ Y) (hX:∀ g,own [i] S g → ¬ own Y S g):T3 i pre c z o S':=by
 obtain ⟨vc,vs,vo,g1,g2,g3,g4,g5,g6⟩:=h
 have ho:∀ g ∈ tks [vc,vs,vo],¬ own Y S g:=fun g hg=>hX g ((own_row g1).2 (by rw [tks_app];simp [hg]))
 have m:∀ {sz n:Nat} {v:AV} {cs:List AV},WL sz v n cs S → (∀ g ∈ tk v,g ∈ tks [vc,vs,vo]) → WL sz v n cs S':=fun w hw=>w.mono (fun g hg=>k.mu g (w.lt g hg) (ho g (hw g hg))) k.mn
 exact ⟨vc,vs,vo,(k.ob i g2 hi).trans g1,Nat.lt_of_lt_of_le g2 k.nx,m g3 (fun g h=>by simp [tks,h]),m g4 (fun g h=>by simp [tks,h]),m g5 (fun g h=>by simp [tks,h]),g6⟩
theorem KL.kx {S S':Sg} (h:KL [] S S') {X:List Nat} (hX:∀ i ∈ X,i < S.nx):KX X S S':=by
 refine ⟨h.e.nx,h.mn,h.e.gn,h.e.gl,h.e.Q,fun i hi _=>h.e.ob i hi,fun g hg _=>h.mu g hg (by simp),fun g=>?_⟩
 rintro ⟨i,hi,row,h1,h2⟩
 exact .inl ⟨i,hi,row,(h.e.ob i (hX i hi)).symm.trans h1,h2⟩
theorem KL.new (S:Sg) (o:AObj):KL [] S (S.new o):=⟨⟨Nat.le_succ _,fun i hi=>upd_ne _ _ (by omega),Nat.le_refl _,fun _ _=>rfl,rfl⟩,Nat.le_refl _,fun _ _ _=>rfl⟩
theorem KX.nil {S S':Sg} (h:KX [] S S'):KL [] S S':=⟨⟨h.nx,fun i hi=>h.ob i hi (by simp),h.gn,h.gl,h.Q⟩,h.mn,fun g hg _=>h.mu g hg (fun ⟨i,hi,_⟩=>by cases hi)⟩
theorem put_l (i:Nat) (pre:List AV) (hp:tks pre=[]) (c:List Word) (z o:List Int) (at_:Int) (m:Nat) (S0:Sg) (j:Nat) (hj:j ≤ m) (hs:z.length + m ≤ 2 ^ 40) {n:Nat} {v:Nat → Bool} {D:List (Nat × List AV)} {S:Sg} {Q:Ex → Fr → Prop} (hP:T3 i pre c (z ++ List.replicate j 0) o S) (hK:KX [i] S0 S)
 (hX:∀ k S',T3 i pre c (z ++ List.replicate m 0) o S' → KX [i] S0 S' → Q (.exit 0) ⟨upd (upd (upd (upd (upd ((fun _=>none)) 51 (some (.val (B false)))) 50 (some (.val (I k)))) 49 (some (.val (I m)))) 7 (some (.val (I at_)))) 0 (some (.val (.ptr i pre.length))),(fun _=>none),n,v,D,S'⟩):EX (callL p) (.loop F68_l1) ⟨upd (upd (upd (upd ((fun _=>none)) 50 (some (.val (I j)))) 49 (some (.val (I m)))) 7 (some (.val (I at_)))) 0 (some (.val (.ptr i pre.length))),(fun _=>none),n,v,D,S⟩ Q:=by
 refine eloop (er (qp J (qb ?_)))
 rintro (_ | _) h1
 ·refine qn (kq5 J) kn (eseq (ecF J (eexit (sqx ?_))))
  have he:j=m:=by simp at h1;omega
  subst he
  exact hX _ _ hP hK
 refine qn (kq5 J) kn (eseq (ecT J (eskip (sqn (eseq (eblock (ereg (pq4 J ?_))))))))
 obtain ⟨vc,vs,vo,g1,g2,g3,g4,g5,g6⟩:=hP
 have hlt:j < m:=by simpa using h1
 refine hldo J g1 (rd_pre pre vc vs vo).2.1 ?_
 refine hbsl J J (lq1 J) ?_
 obtain ⟨v1,S1,w1,w2,w3,w4⟩:=appm_e (by_:=8) g4 (RL.one (sz:=1) (y:=I 0) (o:=.full) rfl) (by simp;omega)
 have e1:(z ++ List.replicate j (0:Int)).map I ++ [I 0]=(z ++ List.replicate (j + 1) (0:Int)).map I:=by rw [List.replicate_succ',← List.append_assoc,mapI_app (z ++ _)];rfl
 rw [e1] at w2
 refine hwop J w1 (pq2 J (hst3 J J ((congrFun w3.ob i).trans g1) w2.c1 w2.erT w2.tip (by simp) (wr_pre pre vc vs vo _ w2.c1).2.1 ?_))
 obtain ⟨T1,K1⟩:=T3.up1 hp g1 g2 g3 g5 g6 w2 w3 w4
 refine qk (kq4 J) kn (bqn (sqn (ereg (hadd J J (i64w (by omega)) (qp J (qk (kq4 J) kn ?_))))))
 exact put_l i pre hp c z o at_ m S0 (j + 1) (by omega) hs T1 (hK.trans K1) hX
termination_by m - j
decreasing_by all_goals omega
theorem put_c (s:Sg) (i:Nat) (pre:List AV) (obs:List HOb) (tag:Int) (v:AV) (fs:List Word) (hp:tks pre=[]) (hP:SP i pre obs s) (hv:RL 2 v (wcs fs) s) (ho:∀ g ∈ tk v,¬ own [i] s g) (hs:(cellsF obs).length + fs.length ≤ 2 ^ 39) (hn:obs.length ≤ 2 ^ 39):HC p N68_ [.ptr i pre.length,I tag,v] s (fun r s'=>r=[I (cellsF obs).length] ∧ SP i pre (obs ++ [⟨(cellsF obs).length,tag,fs⟩]) s' ∧ KX [i] s s'):=by
 have hv0:=hv
 have ho0:=ho
 have lw:∀ l:List Word,(wcs l).length=l.length:=fun l=>List.length_map ..
 refine hcf J f68_ J ?_
 simp only [chainOf]
 refine er (qp J (qn (kq3 J) kn (er (pq3 J ?_))))
 obtain ⟨vc,vs,vo,g1,g2,g3,g4,g5,g6⟩:=hP
 refine hldo J g1 (rd_pre pre vc vs vo).1 ?_
 refine hlenA J g3.len ?_
 rw [lw]
 refine qp J (qn (kq4 J) kn (er (pq4 J (hldo J g1 (rd_pre pre vc vs vo).2.2 ?_))))
 refine qp J (hbsl J J (lq1 J) ?_)
 obtain ⟨v1,S1,w1,w2,w3,w4⟩:=appm_e (by_:=8) g5 (RL.one (sz:=1) (y:=I (cellsF obs).length) (o:=.full) rfl) (by simp [orderF];omega)
 have e1:(orderF obs).map I ++ [I (cellsF obs).length]=(orderF (obs ++ [⟨(cellsF obs).length,tag,fs⟩])).map I:=by simp [orderF]
 rw [e1] at w2
 refine hwop J w1 (pq2 J (hst3 J J ((congrFun w3.ob i).trans g1) w2.c1 w2.erT w2.tip (by simp) (wr_pre pre vc vs vo _ w2.c1).2.2 ?_))
 obtain ⟨T1,K1⟩:=T3.up2 hp g1 g2 g3 g4 g6 w2 w3 w4
 clear w1 w2 w3 w4 g1 g2 g3 g4 g5 g6
 obtain ⟨hv,ho⟩:=hv.kx K1 ho
 obtain ⟨vc,vs,vo,g1,g2,g3,g4,g5,g6⟩:=T1
 refine qn (kq4 J) kn (er (pq4 J (hldo J g1 (rd_pre pre vc vs vo).1 ?_)))
 refine qp J (hbuild J J (lq2 J) (hbsl J J (lq1 J) ?_))
 obtain ⟨v2,S2,x1,x2,x3,x4⟩:=appm_e (by_:=16) g3 (RL.one (sz:=2) (y:=.agg [B false,I tag]) (o:=.full) rfl) (by simp [lw];omega)
 have hv2:=hv.mx x3 fun g hg hx=>ho g hg ((own_row g1).2 (by rw [tks_app];simp [tks,hx]))
 refine hwop J x1 (qp J ?_)
 obtain ⟨v3,S3,y1,y2,y3,y4⟩:=appm_e (by_:=16) x2 hv2 (by simp [lw];omega)
 have z3:=x3.trans y3 fun g hg=>x4 g hg
 have z4:∀ g ∈ tk v3,g ∈ tk vc ∨ _ ≤ g:=fun g hg=>(y4 g hg).elim (x4 g) fun h=>.inr (Nat.le_trans x3.mn h)
 have e2:wcs (cellsF obs) ++ [.agg [B false,I tag]] ++ wcs fs=wcs (cellsF (obs ++ [⟨(cellsF obs).length,tag,fs⟩])):=by rw [cells_app,wcs_app,List.append_assoc];simp [cellsF,oC,wcs,Word.enc,Word.cs]
 rw [e2] at y2
 refine hwop J y1 (pq2 J (hst3 J J ((congrFun z3.ob i).trans g1) y2.c1 y2.erT y2.tip (by simp) (wr_pre pre vc vs vo _ y2.c1).1 ?_))
 obtain ⟨T2,K2⟩:=T3.up0 hp g1 g2 g4 g5 g6 y2 z3 z4
 have K2:=K1.trans K2
 clear x1 x2 x3 x4 y1 y2 y3 y4 z3 z4 g1 g2 g3 g4 g5 g6
 obtain ⟨hv,ho⟩:=hv0.kx K2 ho0
 obtain ⟨vc,vs,vo,g1,g2,g3,g4,g5,g6⟩:=T2
 refine qn (kq3 J) kn (er (pq4 J (hldo J g1 (rd_pre pre vc vs vo).2.1 ?_)))
 refine qp J (hlenA J hv.len ?_)
 rw [lw]
 refine hadd J J (i64w (by omega)) (hbsl J J (lq1 J) ?_)
 obtain ⟨v1,S1,w1,w2,w3,w4⟩:=appm_e (by_:=8) g4 (RL.one (sz:=1) (y:=I (fs.length + 1)) (o:=.full) rfl) (by simp [cells_len];omega)
 have e1:(sizesF obs).map I ++ [I (fs.length + 1)]=(sizesF obs ++ [((fs.length:Int) + 1)] ++ List.replicate 0 0).map I:=by simp
 rw [e1] at w2
 refine hwop J w1 (pq2 J (hst3 J J ((congrFun w3.ob i).trans g1) w2.c1 w2.erT w2.tip (by simp) (wr_pre pre vc vs vo _ w2.c1).2.1 ?_))
 obtain ⟨T1,K3⟩:=T3.up1 hp g1 g2 g3 g5 g6 w2 w3 w4
 have K3:=K2.trans K3
 clear w1 w2 w3 w4 g1 g2 g3 g4 g5 g6
 obtain ⟨hv,ho⟩:=hv0.kx K3 ho0
 refine qn (kq3 J) kn (eseq (er (qp J (hlenA J hv.len ?_))))
 rw [lw]
 refine qp rfl (qn (kq4 rfl) kn (eblock (put_l i pre hp _ _ _ (cellsF obs).length fs.length s 0 (by omega) (by simp [cells_len];omega) T1 K3 ?_)))
 intro k S' q1 q2
 refine bqx (sqn (er (pq2 J (qn (kq1 J) kn (eret (fqr J ?_))))))
 refine ⟨J,?_,q2⟩
 have e:sizesF (obs ++ [⟨(cellsF obs).length,tag,fs⟩])=sizesF obs ++ [((fs.length:Int) + 1)] ++ List.replicate fs.length 0:=by simp [sizesF,oS]
 rw [SP,e]
 exact q1
theorem hhas_c (s:Sg) (i:Nat) (pre:List AV) (obs:List HOb) (x:Int) (hP:SP i pre obs s) (ha:addrs 0 obs):HC p N55_ [.ptr i pre.length,I x] s (fun r s'=>r=[B (hasF obs x)] ∧ s'=s):=by
 refine hcf J f55_ J ?_
 simp only [chainOf]
 refine er (qp J (qn (kq2 J) kn (er (pq2 J (qb ?_)))))
 rintro (_ | _) h1
 refine qp J (zq7 J (pq2 J (zq8 J (pq2 J (qn (kq1 J) kn (eret (fqr J ?_)))))))
 rotate_left
 refine qp J (qg J (qp J (qg J (qp J (qg J (qp J (qg J (qp J (qg J ?_)))))))))
 obtain ⟨vc,vs,vo,g1,g2,g3,g4,g5,g6⟩:=hP
 refine hldo J g1 (rd_pre pre vc vs vo).2.1 ?_
 refine qg J (hlenA J g4.len ?_)
 rw [List.length_map]
 refine qg J (qp J (qb ?_))
 rintro (_ | _) h2
 refine pq2 J (zq8 J (pq2 J (qn (kq1 J) kn (eret (fqr J ?_)))))
 rotate_left
 refine pq2 J (qg J (qp J (qg J (qp J (qg J (qp J (qg J (hldo J g1 (rd_pre pre vc vs vo).2.1 ?_))))))))
 refine qg J (qp J (qg J ?_))
 obtain ⟨y,hy⟩:=get_of_lt (l:=sizesF obs) (i:=x.toNat) (by simp at h1 h2;omega)
 obtain ⟨q,q1,q2⟩:=(g4.rl (ints_sz _)).at_ (j:=x) (y:=I y) (by simpa using h1) (by rw [Lgm,hy];rfl)
 refine hiaR J J q1 (qg J (hldR J q2 J (qg J (pq3 J (qn (kq1 J) kn (eret (fqr J ?_)))))))
 rotate_left
 all_goals
  first
  | (have e:hasF obs x=decide (y > 0):=by
      rw [Bool.eq_iff_iff,hasF_eq ha,hy]
      simp at h1
      simp [h1]
     exact ⟨by rw [e];rfl,rfl⟩)
  | (have e:hasF obs x=false:=by
      rw [Bool.eq_false_iff]
      intro h
      obtain ⟨q0,y,q1,q2⟩:=(hasF_eq ha x).1 h
      have q3:x.toNat < (sizesF obs).length:=by
       rcases Nat.lt_or_ge x.toNat (sizesF obs).length with h | h
       ·exact h
       rw [List.getElem?_eq_none h] at q1;cases q1
      simp at *
      omega
     exact ⟨by rw [e];rfl,rfl⟩)
theorem htag_c (s:Sg) (i:Nat) (pre:List AV) (obs:List HOb) (x:Int) (ob:HOb) (hP:SP i pre obs s) (ha:addrs 0 obs) (hx:obAt obs x=some ob):HC p N32_ [.ptr i pre.length,I x] s (fun r s'=>r=[I ob.tag] ∧ s'=s):=by
 refine hcf J f32_ J ?_
 simp only [chainOf]
 refine er (qp J (qn (kq2 J) kn (er (pq3 J ?_))))
 obtain ⟨vc,vs,vo,g1,g2,g3,g4,g5,g6⟩:=hP
 obtain ⟨k0,k1,k2,k3,k4⟩:=obAt_cells ha hx
 refine hldo J g1 (rd_pre pre vc vs vo).1 ?_
 refine qp J ?_
 obtain ⟨q,q1,q2⟩:=(g3.rl (wcs_sz _)).at_ (j:=x) (y:=.agg [B false,I ob.tag]) k0 (by rw [wcs,Lgm,k1];rfl)
 refine hiaR J J q1 ?_
 obtain ⟨q',q3,q4⟩:=q2.fa 1
 refine hfaR J q3 (hldR J q4 J (qp J (qn (kq1 J) kn (eret (fqr J ?_)))))
 exact ⟨rfl,rfl⟩
theorem sub_rl {S:Sg} {vc:AV} {c fs:List Word} {E:Nat → Option TV} {L:Nat → Option (List AV)} {n:Nat} {v:Nat → Bool} {D:List (Nat × List AV)} {lo hi mx:AO} {a:Nat} (hc:WE 2 vc (wcs c) S) (h1:a + fs.length ≤ c.length) (ha:0 < a) (h2:(c.drop a).take fs.length=fs)
 (b1:boundOf E (some lo) 0=some a) (b2:∀ d,boundOf E (some hi) d=some (a + fs.length)) (b3:∀ d,boundOf E (some mx) d=some (a + fs.length)) :
 ∃ r,slOf 2 ⟨E,L,n,v,D,S⟩ (some lo) (some hi) (some mx) vc=some r ∧ RL 2 r (wcs fs) S ∧ (fs=[] ∧ r=.slice .full 2 [] ∨ ∃ g,vc=.ms g 0 c.length 2 ∧ r=.ms g (a * 2) fs.length 2 ∧ S.mu g=some (flat (wcs c))):=by
 have lw:∀ l:List Word,(wcs l).length=l.length:=fun l=>List.length_map ..
 rcases hc.2 with ⟨h0,_⟩ | ⟨g,rfl,hg,hlt⟩
 ·rw [lw] at h0
  omega
 rw [lw]
 simp only [slOf,b1,b2,b3,Obs,ne_eq,not_true,if_false]
 rw [if_pos ⟨by omega,Nat.le_refl _,h1⟩]
 by_cases hz:fs.length=0
 ·rw [if_neg (by omega)]
  obtain rfl:fs=[]:=List.length_eq_zero_iff.1 hz
  exact ⟨_,rfl,⟨wcs_sz _,.inl ⟨_,rfl⟩⟩,.inl ⟨rfl,rfl⟩⟩
 rw [if_pos (.inr (by omega)),Nat.add_sub_cancel_left,Nat.zero_add]
 refine ⟨_,rfl,⟨wcs_sz _,.inr ⟨g,a * 2,_,by rw [lw],hg,hlt,?_,?_⟩⟩,.inr ⟨g,rfl,rfl,hg⟩⟩
 ·rw [lw,flat_len (wcs_sz c),lw]
  omega
 rw [flat_drop (wcs_sz c),lw,flat_take (sz:=2) (fun x hx=>wcs_sz c x (List.mem_of_mem_drop hx))]
 refine congrArg flat ?_
 rw [wcs,← List.map_drop,← List.map_take,h2]
 rfl
theorem bI {E:Nat → Option TV} {x:AO} {kk:IntKind} {j:Int} {d a:Nat} (h1:evV E x=some (.lit (.int kk j))) (h2:0 ≤ j) (h3:j.toNat=a):boundOf E (some x) d=some a:=by
 subst h3
 simp only [boundOf,h1,Obs,asN,if_pos h2]
theorem hslF {c0:Caller} {l:List AIns} {d:Nat} {x:AO} {S:Sg} {vc:AV} {c fs:List Word} {E:Nat → Option TV} {L:Nat → Option (List AV)} {n:Nat} {v:Nat → Bool} {D:List (Nat × List AV)} {Q:Fr → Prop} {lo hi mx:AO} {a b:Nat} (hc:WE 2 vc (wcs c) S) (h1:a + fs.length ≤ c.length) (ha:0 < a) (h2:(c.drop a).take fs.length=fs) (hb:b=a + fs.length)
 (h0:evV E x=some vc) (b1:boundOf E (some lo) 0=some a) (b2:∀ d,boundOf E (some hi) d=some b) (b3:∀ d,boundOf E (some mx) d=some b)
 (k:∀ r,RL 2 r (wcs fs) S → (fs=[] ∧ r=.slice .full 2 [] ∨ ∃ g,vc=.ms g 0 c.length 2 ∧ r=.ms g (a * 2) fs.length 2 ∧ S.mu g=some (flat (wcs c))) → HL c0 l ⟨upd E d (some (.val r)),L,n,v,D,S⟩ Q) :
 HL c0 (⟨some d,none,.sl 2 x (some lo) (some hi) (some mx)⟩ :: l) ⟨E,L,n,v,D,S⟩ Q:=by
 subst hb
 obtain ⟨r,r1,r2,r3⟩:=sub_rl (v:=v) (n:=n) (L:=L) (D:=D) hc h1 ha h2 b1 b2 b3
 exact hslR h0 r1 (k r r2 r3)
theorem hfields_c (s:Sg) (i:Nat) (pre:List AV) (obs:List HOb) (x:Int) (ob:HOb) (hP:SP i pre obs s) (ha:addrs 0 obs) (hx:obAt obs x=some ob) (hs:(cellsF obs).length ≤ 2 ^ 40):HC p N33_ [.ptr i pre.length,I x] s (fun r s'=>∃ u,r=[u] ∧ s'=s ∧ RL 2 u (wcs ob.fs) s ∧ (∀ g ∈ tk u,own [i] s g) ∧ (ob.fs=[] ∧ u=.slice .none 2 [] ∨ ∃ vc vs vo g,s.ob i=some (.row (pre ++ [vc,vs,vo])) ∧ vc=.ms g 0 (cellsF obs).length 2 ∧ u=.ms g ((x.toNat + 1) * 2) ob.fs.length 2 ∧ s.mu g=some (flat (wcs (cellsF obs))))):=by
 refine hcf J f33_ J ?_
 simp only [chainOf]
 refine er (qp J (qn (kq2 J) kn (er (pq4 J ?_))))
 obtain ⟨vc,vs,vo,g1,g2,g3,g4,g5,g6⟩:=hP
 obtain ⟨k0,k1,k2,k3,k4⟩:=obAt_cells ha hx
 refine hldo J g1 (rd_pre pre vc vs vo).2.1 ?_
 refine qp J ?_
 obtain ⟨q,q1,q2⟩:=(g4.rl (ints_sz _)).at_ (j:=x) (y:=I (ob.fs.length + 1)) k0 (by rw [Lgm,k2];rfl)
 refine hiaR J J q1 (hldR J q2 J (hadd J J (i64w (by omega)) (qp J (qn (kq3 J) kn (er (pq3 J (hldo J g1 (rd_pre pre vc vs vo).1 ?_)))))))
 refine qp rfl (hadd rfl rfl (i64w (by omega)) (qp rfl (qp rfl (hslF (a:=x.toNat + 1) (b:=x.toNat + 1 + ob.fs.length) (fs:=ob.fs) g3 (by omega) (by omega) k4 rfl rfl (bI rfl (by omega) (by omega)) (fun _=>bI rfl (by omega) (by omega)) (fun _=>bI rfl (by omega) (by omega)) ?_))))
 intro u u2 u3
 refine qp J (qn (kq1 J) kn (eret (fqr J ?_)))
 have er:u.er=(match u with | .slice _ z x=>.slice .none z x | _=>u):=by rcases u3 with ⟨_,rfl⟩ | ⟨g,_,rfl,_⟩ <;> rfl
 refine ⟨u.er,J,J,?_,?_,?_⟩
 ·refine ⟨u2.1,?_⟩
  rcases u2.2 with ⟨o,rfl⟩ | ⟨g,off,cs,rfl,h⟩
  ·exact .inl ⟨_,rfl⟩
  exact .inr ⟨g,off,cs,rfl,h⟩
 ·rcases u3 with ⟨_,rfl⟩ | ⟨g,rfl,rfl,_⟩
  ·intro g hg;cases hg
  intro g' hg
  rw [List.mem_singleton.1 hg]
  exact (own_row g1).2 (by rw [tks_app];simp [tks,tk])
 rcases u3 with ⟨h,rfl⟩ | ⟨g,h1,rfl,h2⟩
 ·exact .inl ⟨h,rfl⟩
 exact .inr ⟨vc,vs,vo,g,g1,h1,rfl,h2⟩
end Go.Sim.W
namespace Go.Sim.W
open Go Go.Sim
theorem KL.own {S S':Sg} (h:KL [] S S') {i g:Nat} (hi:i < S.nx) (ho:own [i] S' g):own [i] S g:=by
 obtain ⟨j,hj,row,h1,h2⟩:=ho
 obtain rfl:=List.mem_singleton.1 hj
 exact ⟨j,hj,row,(h.e.ob j hi).symm.trans h1,h2⟩
theorem RL.kl {sz:Nat} {v:AV} {xs:List AV} {S S':Sg} (h:RL sz v xs S) (k:KL [] S S'):RL sz v xs S':=h.mono (fun g _ hl=>k.mu g hl (by simp)) k.mn
theorem RL.ere {sz:Nat} {v:AV} {xs:List AV} {S:Sg} (h:RL sz v xs S):RL sz v.er xs S:=by
 refine ⟨h.1,?_⟩
 rcases h.2 with ⟨o,rfl⟩ | ⟨g,off,cs,rfl,k⟩
 ·exact .inl ⟨_,rfl⟩
 exact .inr ⟨g,off,cs,rfl,k⟩
theorem tk_er (v:AV):tk v.er=tk v:=by cases v <;> rfl
theorem T3.lt {i:Nat} {pre:List AV} {c:List Word} {z o:List Int} {S:Sg} (h:T3 i pre c z o S):i < S.nx:=by obtain ⟨_,_,_,_,h,_⟩:=h;exact h
theorem lw (l:List Word):(wcs l).length=l.length:=List.length_map ..
structure HInv (h:RH):Prop where
 ad:addrs 0 h.obs
 n:h.obs.length ≤ 2 ^ 20
 f:∀ o ∈ h.obs,o.fs.length ≤ 1024
 v:∀ o ∈ h.obs,validW h.obs o.fs=true
 sz:0 ≤ h.size ∧ h.size ≤ 2 ^ 20
theorem cells_le {l:List HOb} (h:∀ o ∈ l,o.fs.length ≤ 1024):(cellsF l).length ≤ l.length * 1025:=by
 induction l with
 | nil=>simp [cellsF]
 | cons o l ih =>
   rw [cells_cons,List.length_cons]
   have:=ih fun o ho=>h o (by simp [ho])
   have:=h o (by simp)
   omega
theorem cells_ge (l:List HOb):l.length ≤ (cellsF l).length:=by
 induction l with
 | nil=>simp
 | cons o l ih=>rw [cells_cons,List.length_cons];omega
theorem HInv.le {h:RH} (k:HInv h):(cellsF h.obs).length ≤ 2 ^ 31:=by
 have:=cells_le k.f
 have:=k.n
 omega
def HS (i:Nat) (h:RH) (S:Sg):Prop:=SP i [I h.size] h.obs S ∧ HInv h
def RH.push (h:RH) (tag:Int) (fs:List Word):RH:=⟨h.size,h.obs ++ [⟨(cellsF h.obs).length,tag,fs⟩]⟩
theorem hasF_app {l k:List HOb} {x:Int} (h:hasF l x=true):hasF (l ++ k) x=true:=by
 obtain ⟨o,ho⟩:=Option.isSome_iff_exists.1 h
 simp only [hasF,obAt] at ho ⊢
 rw [List.find?_append,ho]
 rfl
theorem validW_app {l k:List HOb} {fs:List Word} (h:validW l fs=true):validW (l ++ k) fs=true:=by
 simp only [validW,List.all_eq_true] at h ⊢
 intro w hw
 have:=h w hw
 cases hr:w.ref with
 | false=>rfl
 | true =>
   rw [hr] at this
   simp only [Bta,Bool.not_not] at this
   rw [hasF_app this]
   rfl
theorem HInv.push {h:RH} (k:HInv h) {tag:Int} {fs:List Word} (h1:fs.length ≤ 1024) (h2:validW h.obs fs=true) (h3:((cellsF h.obs).length:Int) + 1 + fs.length ≤ h.size):HInv (h.push tag fs):=by
 refine ⟨addrs_app.2 ⟨k.ad,by simp [addrs]⟩,?_,?_,?_,k.sz⟩
 ·have:=cells_ge h.obs
  have:=k.sz
  simp only [RH.push,List.length_append,List.length_singleton]
  omega
 ·intro o ho
  rcases List.mem_append.1 ho with ho | ho
  ·exact k.f o ho
  rw [List.mem_singleton.1 ho];exact h1
 intro o ho
 rcases List.mem_append.1 ho with ho | ho
 ·exact validW_app (k.v o ho)
 rw [List.mem_singleton.1 ho];exact validW_app h2
theorem valid1_c (s:Sg) (i bx:Nat) (pre:List AV) (obs:List HOb) (ha:addrs 0 obs) (hP:SP i pre obs s) (hb:s.ob bx=some (.row [.ptr i pre.length])) (w:Word):HC p N54_ [.agg [B w.ref,I w.n],.ptr bx 0] s (fun r s'=>r=[B (w.ref && !hasF obs w.n)] ∧ s'=s):=by
 refine hcf J f54_ J ?_
 simp only [chainOf]
 refine er (hbox (dq2 J) J (lq2 J) (qp J (qn (kq2 J) (kq1 J) (er (pq2 J (qb ?_))))))
 rintro (_ | _) h1
 ·refine qp J (zq5 J (pq2 J (qn (kq1 J) kn (eret (fqr J ?_)))))
  exact ⟨by (simp_all <;> rfl),rfl⟩
 refine qp J (qg J (hldo J hb J ?_))
 refine qg J (qp J (qg J (qp J (qg J (hcall J J J (hhas_c _ i pre obs w.n hP ha) ?_)))))
 rintro _ _ ⟨rfl,rfl⟩
 refine qg J (pq3 J (qn (kq1 J) kn (eret (fqr J ?_))))
 exact ⟨by (simp_all <;> rfl),rfl⟩
theorem if_l (i bx:Nat) (pre:List AV) (obs:List HOb) (ha:addrs 0 obs) (u:AV) (l:List Word) (j:Nat) (hj:j ≤ l.length) (hs:l.length ≤ 2 ^ 40) {n:Nat} {v:Nat → Bool} {D:List (Nat × List AV)} {S:Sg} {Q:Ex → Fr → Prop} (hP:SP i pre obs S) (hb:S.ob bx=some (.row [.ptr i pre.length])) (hu:RL 2 u (wcs l) S)
 (hX:∀ k,validW obs (l.drop j)=true → Q (.exit 0) ⟨upd (upd (upd (upd (upd ((fun _=>none)) 9 (some (.val (B false)))) 8 (some (.val (I k)))) 7 (some (.val (I l.length)))) 1 (some (.val (.fn N54_ [] [.ptr bx 0])))) 0 (some (.val u)),(fun _=>none),n,v,D,S⟩) (hR:∀ k:Int,0 ≤ k → validW obs (l.drop j)=false → Q .ret ⟨upd ((fun _=>none)) 4 (some (.val (I k))),(fun _=>none),n,v,D,S⟩):EX (callL p) (.loop F77_l1) ⟨upd (upd (upd (upd ((fun _=>none)) 8 (some (.val (I j)))) 7 (some (.val (I l.length)))) 1 (some (.val (.fn N54_ [] [.ptr bx 0])))) 0 (some (.val u)),(fun _=>none),n,v,D,S⟩ Q:=by
 refine eloop (er (qp J (qb ?_)))
 rintro (_ | _) h1
 ·refine qn (kq5 J) kn (eseq (ecF J (eexit (sqx ?_))))
  exact hX _ (by rw [List.drop_eq_nil_of_le (by simp at h1 ⊢;omega)];rfl)
 refine qn (kq5 J) kn (eseq (ecT J (eskip (sqn (eseq (eblock (er (pq2 J (qn (kq5 J) kn (er (pq3 J ?_)))))))))))
 have hlt:j < l.length:=by simpa using h1
 obtain ⟨a,ha2⟩:=get_of_lt hlt
 have hd:=drop_cons ha2
 obtain ⟨q,q1,q2⟩:=hu.at_ (j:=(j:Int)) (y:=a.enc) (by omega) (by rw [wcs,Lgm,Int.toNat_natCast,ha2];rfl)
 refine hiaR J J q1 (hldR J q2 J (hcall J J J (valid1_c _ i bx pre obs ha hP hb a) ?_))
 rintro _ _ ⟨rfl,rfl⟩
 refine qb ?_
 rintro (_ | _) h2
 ·refine qn (kq6 J) kn (ecF J (eskip (bqn (sqn (ereg (hadd J J (i64w (by omega)) (qp J (qk (kq4 J) kn ?_))))))))
  exact if_l i bx pre obs ha u l (j + 1) (by omega) hs hP hb hu (fun k h=>hX k (by rw [hd];cases hr:a.ref <;> simp_all [validW])) (fun k hk h=>hR k hk (by rw [hd];cases hr:a.ref <;> simp_all [validW]))
 refine qn (kq6 J) kn (ecT J (er (pq2 J (qn (kq1 J) kn (eret (bqr (sqr ?_)))))))
 exact hR j (by omega) (by rw [hd];cases hr:a.ref <;> simp_all [validW])
termination_by l.length - j
decreasing_by all_goals omega
theorem if_c (s:Sg) (i bx:Nat) (pre:List AV) (obs:List HOb) (ha:addrs 0 obs) (hP:SP i pre obs s) (hb:s.ob bx=some (.row [.ptr i pre.length])) (u:AV) (l:List Word) (hs:l.length ≤ 2 ^ 40) (hu:RL 2 u (wcs l) s):HC p N77_ [u,.fn N54_ [] [.ptr bx 0]] s (fun r s'=>∃ k:Int,r=[I k] ∧ decide (0 ≤ k)=!validW obs l ∧ s'=s):=by
 refine hcf J f77_ J ?_
 simp only [chainOf]
 refine er (qp J (qn (kq2 J) kn (eseq (er (qp J (hlenA J hu.len ?_))))))
 rw [lw]
 refine qp J (qn (kq4 J) kn (eblock ?_))
 refine if_l i bx pre obs ha u l 0 (by omega) hs hP hb hu ?_ ?_
 ·intro j hv
  rw [List.drop_zero] at hv
  refine bqx (sqn (er (qp J (qn (kq1 J) kn (eret (fqr J ?_))))))
  first
  | exact ⟨k,rfl,by rw [hv,decide_eq_true hk];rfl,rfl⟩
  | exact ⟨-1,rfl,by rw [hv];rfl,rfl⟩
 intro k hk hv
 rw [List.drop_zero] at hv
 refine bqr (sqr (fqr J ?_))
 first
 | exact ⟨k,rfl,by rw [hv,decide_eq_true hk];rfl,rfl⟩
 | exact ⟨-1,rfl,by rw [hv];rfl,rfl⟩
theorem cf_c (s:Sg) (i bx:Nat) (pre:List AV) (obs:List HOb) (ha:addrs 0 obs) (hP:SP i pre obs s) (hb:s.ob bx=some (.row [.ptr i pre.length])) (u:AV) (l:List Word) (hs:l.length ≤ 2 ^ 40) (hu:RL 2 u (wcs l) s):HC p N53_ [u,.fn N54_ [] [.ptr bx 0]] s (fun r s'=>r=[B (!validW obs l)] ∧ s'=s):=by
 refine hcf J f53_ J ?_
 simp only [chainOf]
 refine er (qp J (qn (kq2 J) kn (er (pq2 J (hcall J J J (if_c _ i bx pre obs ha hP hb u.er l hs hu.ere) ?_)))))
 rintro _ _ ⟨k,rfl,hk,rfl⟩
 refine pq2 J (qn (kq1 J) kn (eret (fqr J ?_)))
 exact ⟨congrArg (fun x=>[B x]) hk,rfl⟩
theorem hvalid_c (s:Sg) (i:Nat) (pre:List AV) (obs:List HOb) (ha:addrs 0 obs) (hP:SP i pre obs s) (u:AV) (l:List Word) (hs:l.length ≤ 2 ^ 40) (hu:RL 2 u (wcs l) s):HC p N30_ [.ptr i pre.length,u] s (fun r s'=>r=[B (validW obs l)] ∧ KL [] s s'):=by
 refine hcf J f30_ J ?_
 simp only [chainOf]
 refine er (hboxo J (lq1 J) (qp J (qn (kq2 J) kn (er (pq2 J (hcall J J J (cf_c _ i s.nx pre obs ha (hP.kl (KL.new _ _) (by simp)) (upd_same _ _ _) u.er l hs (hu.ere.kl (KL.new _ _))) ?_))))))
 rintro _ _ ⟨rfl,rfl⟩
 refine pq2 J (qn (kq1 J) kn (eret (fqr J ?_)))
 exact ⟨by simp [B,AV.ers,AV.er],KL.new _ _⟩
theorem at_c (s:Sg) (i:Nat) (h:RH) (x:Int) (hP:HS i h s):HC p N81_ [.ptr i 0,I x] s (fun r s'=>r=[I (if hasF h.obs x=true then 0 else 171)] ∧ s'=s):=by
 refine hcf J f81_ J ?_
 simp only [chainOf]
 refine er (qp J (qn (kq2 J) kn (eseq (eblock (er (qp J (hpeq J J J J J (qb ?_))))))))
 rintro (_ | _) h1
 ·refine qp J (qn (kq3 J) kn (ecF J (er (pq4 J (hcall J J J (hhas_c _ i [I h.size] h.obs x hP.1 hP.2.ad) ?_)))))
  rintro _ _ ⟨rfl,rfl⟩
  refine qb ?_
  rintro (_ | _) h2
  ·refine pq2 J (qn (kq1 J) kn (ecT J (er (qp J (qn (kq1 J) kn (eret (bqr (sqr (fqr J ?_)))))))))
   exact ⟨by (simp_all <;> rfl),rfl⟩
  refine pq2 J (qn (kq1 J) kn (ecF J (eskip (bqn (sqn (er (qp J (qn (kq1 J) kn (eret (fqr J ?_))))))))))
  exact ⟨by (simp_all <;> rfl),rfl⟩
 refine qp J (qn (kq3 J) kn (ecT J (er (qp J (qn (kq1 J) kn (eret (bqr (sqr (fqr J ?_)))))))))
 exact ⟨by (simp_all <;> rfl),rfl⟩
theorem hnew_c (s:Sg) (n:Int):HC p N23_ [I n] s (fun r s'=>(if 0 ≤ n ∧ n ≤ 2 ^ 20 then r=[.ptr s.nx 0,I 0] ∧ HS s.nx ⟨n,[]⟩ s' ∧ (∀ g,¬ own [s.nx] s' g) else r=[.lit (.pointer none),I 1]) ∧ KL [] s s'):=by
 refine hcf J f23_ J ?_
 simp only [chainOf]
 refine er (pq2 J (qn (kq1 J) kn (eseq (er (pq2 J (qb ?_))))))
 rintro (_ | _) h1
 refine qp J (qg J (qp J (qg J (qp J (qb ?_)))))
 rintro (_ | _) h2
 refine qp J (qn (kq2 J) kn (ecF J (eskip (sqn (er (qp J (hbuild J J (lq4 J) (hboxo J (lq4 J) (pq2 J (qn (kq2 J) kn (eret (fqr J ?_))))))))))))
 rotate_left
 refine qp J (qn (kq2 J) kn (ecT J (er (pq2 J (qn (kq2 J) kn (eret (sqr (fqr J ?_))))))))
 rotate_left
 refine qp J (zq2 J (qp J (qn (kq2 J) kn (ecT J (er (pq2 J (qn (kq2 J) kn (eret (sqr (fqr J ?_))))))))))
 rotate_left
 all_goals
  first
  | exact ⟨by rw [if_neg (by simp at *;omega)];rfl,KL.refl _ _⟩
  | (have hw:∀ sz,WL sz (.slice .full sz []) 0 [] (s.new (.row [I n,.slice .full 2 [],.slice .full 1 [],.slice .full 1 []])):=fun sz=>⟨by simp,.inl ⟨rfl,rfl⟩⟩
     have hz:0 ≤ n ∧ n ≤ 2 ^ 20:=by simp at *;omega
     rw [if_pos hz]
     exact ⟨⟨rfl,⟨⟨_,_,_,upd_same _ _ _,Nat.lt_succ_self _,hw 2,hw 1,hw 1,List.nodup_nil⟩,⟨trivial,by simp,by simp,by simp,hz⟩⟩,fun g ho=>by have:=(own_row (upd_same _ _ _)).1 ho;simp [tks,tk,AV.erT,Own.erT,I] at this⟩,KL.new _ _⟩)
theorem halloc_c (s:Sg) (i:Nat) (h:RH) (tag:Int) (u:AV) (fs:List Word) (hP:HS i h s) (h0:0 ≤ tag ∧ tag ≤ 100000) (hf:fs.length ≤ 1024) (hv:validW h.obs fs=true) (hu:RL 2 u (wcs fs) s) (ho:∀ g ∈ tk u,¬ own [i] s g):HC p N72_ [.ptr i 0,I tag,u] s (fun r s'=>(if ((cellsF h.obs).length:Int) + 1 + fs.length > h.size then r=[I 0,I 170] ∧ HS i h s' else r=[I (cellsF h.obs).length,I 0] ∧ HS i (h.push tag fs) s') ∧ KX [i] s s'):=by
 have hle:=hP.2.le
 have hsz:=hP.2.sz
 refine hcf J f72_ J ?_
 simp only [chainOf]
 refine er (pq2 J (qn (kq3 J) kn (eseq (eblock (er (qp J (hpeq J J J J J (qb ?_))))))))
 rintro (_ | _) h1
 refine qp J (qn (kq4 J) kn (ecF J (er (pq2 J (qb ?_)))))
 rintro (_ | _) h2
 refine qp J (qg J (qp J (qg J (qp J (qb ?_)))))
 rintro (_ | _) h3
 refine pq2 J (qg J (qp J (qg J (hlenA J hu.len ?_))))
 rw [lw]
 refine qg J (qp J (qb ?_))
 rintro (_ | _) h4
 refine pq2 J (qn (kq4 J) kn (ecF J (er (pq4 J (hcall J J J (hvalid_c _ i [I h.size] h.obs hP.2.ad hP.1 u.er fs (by omega) hu.ere) ?_)))))
 rintro _ s1 ⟨rfl,hK⟩
 have hP1:HS i h s1:=⟨hP.1.kl hK (by simp),hP.2⟩
 have hK1:=hK.kx (X:=[i]) (by simpa using hP.1.lt)
 obtain ⟨vc,vs,vo,g1,g2,g3,g4,g5,g6⟩:=hP1.1
 refine qb ?_
 rintro (_ | _) h5
 refine pq2 J (qn (kq4 J) kn (ecT J (er (pq2 J (qn (kq2 J) kn (eret (bqr (sqr (fqr J ?_)))))))))
 rotate_left
 refine pq2 J (qn (kq4 J) kn (ecF J (er (pq4 J (hldo J g1 J ?_)))))
 refine hlenA J g3.len ?_
 rw [lw]
 refine hadd J J (i64w (by omega)) (qp J (hlenA J hu.len ?_))
 rw [lw]
 refine hadd J J (i64w (by omega)) (pq3 J (hldo J g1 J ?_))
 refine qp J (qb ?_)
 rintro (_ | _) h6
 refine qp rfl (qk (kc rfl (kc rfl (kc rfl (kc rfl kn)))) kn (sqn (ecF rfl (eskip (bqn (sqn (eseq (ereg (qp rfl (qp rfl (qp rfl (qp rfl (qp rfl (hcall rfl rfl rfl (put_c _ i [I h.size] h.obs tag u.er fs rfl hP1.1 (hu.kl hK).ere (fun g hg hx=>ho g (by rwa [tk_er] at hg) (hK.own hP.1.lt hx)) (by omega) (by have:=hP.2.n;omega)) ?_))))))))))))))
 rintro _ s2 ⟨rfl,hP2,hK2⟩
 refine pq2 J (qn (kq2 J) kn (eret (fqr J ?_)))
 rotate_left
 refine qp J (qn (kq4 J) kn (ecT J (er (pq2 J (qn (kq2 J) kn (eret (bqr (sqr (fqr J ?_)))))))))
 rotate_left
 simp at h4
 omega
 simp at h3
 omega
 simp at h2
 omega
 simp at h1
 all_goals
  first
  | (rw [if_pos (by simp at *;omega)]
     exact ⟨⟨rfl,hP1⟩,hK1⟩)
  | (have hz:¬ ((cellsF h.obs).length:Int) + 1 + fs.length > h.size:=by simp at *;omega
     rw [if_neg hz]
     exact ⟨⟨rfl,hP2,hP.2.push hf hv (by omega)⟩,hK1.trans hK2⟩)
  | (exfalso;simp_all)
theorem Htag_c (s:Sg) (i:Nat) (h:RH) (x:Int) (ob:HOb) (hP:HS i h s) (hx:obAt h.obs x=some ob):HC p N82_ [.ptr i 0,I x] s (fun r s'=>r=[I ob.tag,I 0] ∧ s'=s):=by
 have hh:hasF h.obs x=true:=by rw [hasF,hx];rfl
 refine hcf J f82_ J ?_
 simp only [chainOf]
 refine er (pq2 J (qn (kq2 J) kn (eseq (er (pq2 J (hcall J J J (at_c _ i h x hP) ?_))))))
 rintro _ _ ⟨rfl,rfl⟩
 refine qp J (qn (kq3 J) kn (er (pq2 J (qb ?_))))
 rintro (_ | _) h1
 ·refine qn (kq4 J) kn (ecF J (eskip (sqn (er (pq4 J (hcall J J J (htag_c _ i [I h.size] h.obs x ob hP.1 hP.2.ad hx) ?_))))))
  rintro _ _ ⟨rfl,rfl⟩
  refine pq2 J (qn (kq2 J) kn (eret (fqr J ?_)))
  exact ⟨rfl,rfl⟩
 simp [hh] at h1
theorem Hfield_c (s:Sg) (i:Nat) (h:RH) (x k:Int) (ob:HOb) (hP:HS i h s) (hx:obAt h.obs x=some ob) (h0:0 ≤ k):HC p N74_ [.ptr i 0,I x,I k] s (fun r s'=>(match ob.fs[k.toNat]? with | some w=>r=[.agg [B w.ref,I w.n],I 0] | none=>r=[.agg [B false,I 0],I 1]) ∧ s'=s):=by
 have hh:hasF h.obs x=true:=by rw [hasF,hx];rfl
 refine hcf J f74_ J ?_
 simp only [chainOf]
 refine er (hal (dq3 J) (qp J (qn (kq4 J) (kq1 J) (eseq (er (pq2 J (hcall J J J (at_c _ i h x hP) ?_)))))))
 rintro _ _ ⟨rfl,rfl⟩
 refine qp J (qn (kq5 J) (kq1 J) (er (pq2 J (qb ?_))))
 rintro (_ | _) h1
 ·refine qk (kc rfl (kc rfl (kc rfl (kc rfl (kc rfl (kc rfl kn)))))) (kc rfl kn) (sqn (ecF rfl (eskip (sqn (eseq (eseq (ereg (qp rfl (qp rfl (qp rfl (qp rfl (hcall rfl rfl rfl (hfields_c _ i [I h.size] h.obs x ob hP.1 hP.2.ad hx (by have:=hP.2.le;omega)) ?_))))))))))))
  rintro _ _ ⟨u,rfl,rfl,hu,_⟩
  refine qp J (qn (kq3 J) (kq1 J) (er (pq2 J (qb ?_))))
  rintro (_ | _) h2
  ·simp at h2
   omega
  refine qp J (qg J (qp J (qg J (qp J (qg J (hlenA J hu.len ?_))))))
  rw [lw]
  refine qg J (qp J (qb ?_))
  rintro (_ | _) h3
  ·refine qp J (qn (kq4 J) (kq1 J) (ecF J (eskip (sqn (er (hbuild J J (lq2 J) (hstl J J J J (Nlb J) (lq2 J) (qp J (qn (kq2 J) (kq1 J) (eret (fqr J ?_)))))))))))
   first
   | exact ⟨by rw [hw];rfl,rfl⟩
   | exact ⟨by rw [List.getElem?_eq_none (by simp at h3;omega)];rfl,rfl⟩
  refine qp J (qn (kq4 J) (kq1 J) (ecT J (er (pq2 J ?_))))
  obtain ⟨w,hw⟩:=get_of_lt (l:=ob.fs) (i:=k.toNat) (by simp at h3;omega)
  obtain ⟨q,q1,q2⟩:=hu.at_ (j:=k) (y:=w.enc) h0 (by rw [wcs,Lgm,hw];rfl)
  refine hiaR J J q1 (hldR J q2 J (hstl J J J J (Nlb J) (lq2 J) (qp J (qn (kq2 J) (kq1 J) (eret (sqr (fqr J ?_)))))))
  first
  | exact ⟨by rw [hw];rfl,rfl⟩
  | exact ⟨by rw [List.getElem?_eq_none (by simp at h3;omega)];rfl,rfl⟩
 simp [hh] at h1
end Go.Sim.W
namespace Go.Sim.W
open Go Go.Sim
abbrev TL:=List (Int × HOb)
def tos (T:TL):List HOb:=T.map (·.2)
def tAt (T:TL) (x:Int):Option HOb:=(T.find? fun q=>decide (q.1=x)).map (·.2)
def nad (T:TL) (x:Int):Int:=match tAt T x with
 | some o=>o.at_
 | none=>0
def mvT (obs:List HOb) (T:TL) (x:Int):TL:=match tAt T x with
 | some _=>T
 | none=>match obAt obs x with
   | none=>T
   | some o=>T ++ [(x,⟨(cellsF (tos T)).length,o.tag,o.fs⟩)]
def mvW (obs:List HOb):TL → List Word → List Word × TL
 | T,[]=>([],T)
 | T,w :: ws=>if w.ref=true then (⟨true,nad (mvT obs T w.n) w.n⟩ :: (mvW obs (mvT obs T w.n) ws).1,(mvW obs (mvT obs T w.n) ws).2) else (w :: (mvW obs T ws).1,(mvW obs T ws).2)
def putT (T:TL) (i:Nat) (q:Int × HOb) (fs:List Word):TL:=T.set i (q.1,⟨q.2.at_,q.2.tag,fs⟩)
def scanT (obs:List HOb):Nat → Nat → TL → TL
 | 0,_,T=>T
 | k + 1,i,T=>match T[i]? with
   | none=>T
   | some q=>scanT obs k (i + 1) (putT (mvW obs T q.2.fs).2 i q (mvW obs T q.2.fs).1)
def collectP (h:RH) (roots:List Word):RH × List Word:=(⟨h.size,tos (scanT h.obs (h.obs.length + 1) 0 (mvW h.obs [] roots).2)⟩,(mvW h.obs [] roots).1)
theorem tos_app (T E:TL):tos (T ++ E)=tos T ++ tos E:=List.map_append ..
theorem tAt_app {T:TL} {x:Int} {o:HOb} (h:tAt T x=some o) (E:TL):tAt (T ++ E) x=some o:=by
 obtain ⟨q,h1,h2⟩:=Option.map_eq_some_iff.1 h
 simp only [tAt,List.find?_append,h1,Option.some_or,Option.map_some,h2]
theorem tAt_mem {T:TL} {x:Int} {o:HOb} (h:tAt T x=some o):(x,o) ∈ T:=by
 obtain ⟨q,h1,rfl⟩:=Option.map_eq_some_iff.1 h
 have e:q.1=x:=by simpa using List.find?_some h1
 have:=List.mem_of_find?_eq_some h1
 rw [← e]
 exact this
theorem tAt_none {T:TL} {x:Int} (h:tAt T x=none):∀ q ∈ T,q.1 ≠ x:=by
 intro q hq e
 have:=(List.find?_eq_none.1 (Option.map_eq_none_iff.1 h)) q hq
 simp [e] at this
theorem mvT_pre (obs:List HOb) (T:TL) (x:Int):∃ E,mvT obs T x=T ++ E:=by
 unfold mvT
 split
 ·exact ⟨[],by simp⟩
 split
 ·exact ⟨[],by simp⟩
 exact ⟨_,rfl⟩
theorem mvW_pre (obs:List HOb) (T:TL) (l:List Word):∃ E,(mvW obs T l).2=T ++ E:=by
 induction l generalizing T with
 | nil=>exact ⟨[],by simp [mvW]⟩
 | cons w l ih =>
   unfold mvW
   split
   ·obtain ⟨E,hE⟩:=mvT_pre obs T w.n
    obtain ⟨F,hF⟩:=ih (mvT obs T w.n)
    exact ⟨E ++ F,by show (mvW obs (mvT obs T w.n) l).2=_;rw [hF,hE,List.append_assoc]⟩
   exact ih T
theorem mvW_len (obs:List HOb) (T:TL) (l:List Word):(mvW obs T l).1.length=l.length:=by
 induction l generalizing T with
 | nil=>rfl
 | cons w l ih =>
   unfold mvW
   split <;> simp [ih]
structure TI (obs:List HOb) (T:TL):Prop where
 ad:addrs 0 (tos T)
 nd:(T.map (·.1)).Nodup
 ok:∀ q ∈ T,∃ o,obAt obs q.1=some o ∧ q.2.fs.length=o.fs.length ∧ q.2.tag=o.tag
theorem nd_len:∀ (l m:List Int),l.Nodup → (∀ x ∈ l,x ∈ m) → l.length ≤ m.length:=by
 intro l
 induction l with
 | nil=>intro m _ _;exact Nat.zero_le _
 | cons a l ih =>
   intro m hn hs
   obtain ⟨m1,m2,rfl⟩:=List.append_of_mem (hs a (by simp))
   have hn:=List.nodup_cons.1 hn
   have:=ih (m1 ++ m2) hn.2 fun x hx=>by
    have h:=hs x (by simp [hx])
    simp only [List.mem_append,List.mem_cons] at h ⊢
    rcases h with h | h | h
    ·exact .inl h
    ·subst h;exact absurd hx hn.1
    exact .inr h
   simp only [List.length_cons,List.length_append] at this ⊢
   omega
theorem obAt_mem {obs:List HOb} {x:Int} {o:HOb} (h:obAt obs x=some o):o ∈ obs:=List.mem_of_find?_eq_some h
theorem TI.len {obs:List HOb} {T:TL} (h:TI obs T):T.length ≤ obs.length:=by
 have:=nd_len (T.map (·.1)) (obs.map (·.at_)) h.nd fun x hx=>by
  obtain ⟨q,hq,rfl⟩:=List.mem_map.1 hx
  obtain ⟨o,ho,_⟩:=h.ok q hq
  exact List.mem_map.2 ⟨o,obAt_mem ho,obAt_at ho⟩
 simpa using this
theorem TI.fs {obs:List HOb} {T:TL} (h:TI obs T) (hf:∀ o ∈ obs,o.fs.length ≤ 1024):∀ o ∈ tos T,o.fs.length ≤ 1024:=by
 intro o ho
 obtain ⟨q,hq,rfl⟩:=List.mem_map.1 ho
 obtain ⟨o,ho,h1,_⟩:=h.ok q hq
 rw [h1]
 exact hf o (obAt_mem ho)
theorem TI.cells {h:RH} {T:TL} (k:TI h.obs T) (hi:HInv h):(cellsF (tos T)).length ≤ 2 ^ 31:=by
 have h1:=cells_le (k.fs hi.f)
 have h2:=k.len
 have h3:=hi.n
 have h4:(tos T).length=T.length:=List.length_map ..
 omega
theorem TI.mvT {obs:List HOb} {T:TL} (h:TI obs T) (x:Int):TI obs (mvT obs T x):=by
 unfold W.mvT
 split
 ·exact h
 rename_i hn
 split
 ·exact h
 rename_i o ho
 refine ⟨?_,?_,?_⟩
 ·rw [tos_app]
  exact addrs_app.2 ⟨h.ad,by simp [tos,addrs]⟩
 ·rw [List.map_append]
  refine List.nodup_append.2 ⟨h.nd,by simp,fun a ha b hb e=>?_⟩
  obtain ⟨q,hq,rfl⟩:=List.mem_map.1 ha
  simp only [List.map_cons,List.map_nil,List.mem_singleton] at hb
  exact tAt_none hn q hq (e.trans hb)
 intro q hq
 rcases List.mem_append.1 hq with hq | hq
 ·exact h.ok q hq
 rw [List.mem_singleton.1 hq]
 exact ⟨o,ho,rfl,rfl⟩
theorem TI.mvW {obs:List HOb} {T:TL} (h:TI obs T) (l:List Word):TI obs (mvW obs T l).2:=by
 induction l generalizing T with
 | nil=>exact h
 | cons w l ih =>
   unfold W.mvW
   split
   ·exact ih (h.mvT w.n)
   exact ih h
theorem mvT_at {obs:List HOb} {T:TL} {x:Int} (h:hasF obs x=true):∃ o,tAt (mvT obs T x) x=some o:=by
 unfold mvT
 split
 ·rename_i o ho
  exact ⟨o,ho⟩
 rename_i hn
 obtain ⟨o,ho⟩:=Option.isSome_iff_exists.1 h
 rw [ho]
 refine ⟨⟨(cellsF (tos T)).length,o.tag,o.fs⟩,?_⟩
 have e:List.find? (fun q=>decide (q.1=x)) T=none:=Option.map_eq_none_iff.1 hn
 simp only [tAt,List.find?_append,e,Option.none_or]
 simp
theorem hasF_mem {l:List HOb} {o:HOb} (h:o ∈ l):hasF l o.at_=true:=by
 rw [hasF,obAt,List.find?_isSome]
 exact ⟨o,h,by simp⟩
theorem hasF_tos {T:TL} {x:Int} {o:HOb} (h:tAt T x=some o):hasF (tos T) (nad T x)=true:=by
 rw [nad,h]
 exact hasF_mem (List.mem_map.2 ⟨_,tAt_mem h,rfl⟩)
theorem validW_cons {obs:List HOb} {w:Word} {l:List Word}:validW obs (w :: l)=true ↔ (w.ref=true → hasF obs w.n=true) ∧ validW obs l=true:=by
 simp only [validW,List.all_cons,Bae]
 refine and_congr ?_ Iff.rfl
 cases w.ref <;> simp
theorem mvW_valid {obs:List HOb} {T:TL} {l:List Word} (h:validW obs l=true):validW (tos (mvW obs T l).2) (mvW obs T l).1=true:=by
 induction l generalizing T with
 | nil=>rfl
 | cons w l ih =>
   obtain ⟨h1,h2⟩:=validW_cons.1 h
   unfold mvW
   split
   ·rename_i hr
    refine validW_cons.2 ⟨fun _=>?_,ih h2⟩
    obtain ⟨o,ho⟩:=mvT_at (T:=T) (h1 hr)
    obtain ⟨E,hE⟩:=mvW_pre obs (mvT obs T w.n) l
    show hasF (tos (mvW obs (mvT obs T w.n) l).2) (nad (mvT obs T w.n) w.n)=true
    rw [hE,tos_app]
    exact hasF_app (hasF_tos ho)
   rename_i hr
   exact validW_cons.2 ⟨fun h=>absurd h hr,ih h2⟩
theorem addrs_set {a:Int} {l:List HOb} {i:Nat} {o:HOb} {fs:List Word} (h:addrs a l) (hi:l[i]?=some o) (hl:fs.length=o.fs.length):addrs a (l.set i ⟨o.at_,o.tag,fs⟩):=by
 induction l generalizing a i with
 | nil=>cases hi
 | cons b l ih =>
   cases i with
   | zero =>
     simp only [List.getElem?_cons_zero,Oie] at hi
     subst hi
     exact ⟨h.1,by rw [hl];exact h.2⟩
   | succ i=>exact ⟨h.1,ih h.2 (by simpa using hi)⟩
theorem hasF_set {l:List HOb} {i:Nat} {o:HOb} {fs:List Word} {x:Int} (hi:l[i]?=some o) (h:hasF l x=true):hasF (l.set i ⟨o.at_,o.tag,fs⟩) x=true:=by
 obtain ⟨b,hb⟩:=Option.isSome_iff_exists.1 h
 have hm:=obAt_mem hb
 have he:=obAt_at hb
 obtain ⟨j,hj⟩:=List.getElem?_of_mem hm
 have hlt:i < l.length:=by
  rcases Nat.lt_or_ge i l.length with h | h
  ·exact h
  rw [List.getElem?_eq_none h] at hi;cases hi
 by_cases hij:i=j
 ·subst hij
  rw [hi] at hj
  cases hj
  rw [← he]
  have:(⟨o.at_,o.tag,fs⟩:HOb) ∈ l.set i ⟨o.at_,o.tag,fs⟩:=Lmg (List.getElem?_set_self hlt)
  exact hasF_mem (o:=⟨o.at_,o.tag,fs⟩) this
 rw [← he]
 exact hasF_mem (Lmg ((List.getElem?_set_ne hij).trans hj))
theorem validW_mono {l m:List HOb} (h:∀ x,hasF l x=true → hasF m x=true) {fs:List Word} (hv:validW l fs=true):validW m fs=true:=by
 induction fs with
 | nil=>rfl
 | cons w fs ih =>
   obtain ⟨h1,h2⟩:=validW_cons.1 hv
   exact validW_cons.2 ⟨fun hr=>h _ (h1 hr),ih h2⟩
theorem tos_set (T:TL) (i:Nat) (q:Int × HOb) (fs:List Word):tos (putT T i q fs)=(tos T).set i ⟨q.2.at_,q.2.tag,fs⟩:=by simp [tos,putT,List.map_set]
theorem tos_get {T:TL} {i:Nat} {q:Int × HOb} (h:T[i]?=some q):(tos T)[i]?=some q.2:=by simp [tos,h]
theorem TI.put {obs:List HOb} {T:TL} (h:TI obs T) {i:Nat} {q:Int × HOb} (hi:T[i]?=some q) {fs:List Word} (hl:fs.length=q.2.fs.length):TI obs (putT T i q fs):=by
 have hlt:i < T.length:=by
  rcases Nat.lt_or_ge i T.length with h | h
  ·exact h
  rw [List.getElem?_eq_none h] at hi;cases hi
 refine ⟨?_,?_,?_⟩
 ·rw [tos_set]
  exact addrs_set h.ad (tos_get hi) hl
 ·have e:(putT T i q fs).map (·.1)=T.map (·.1):=by
   rw [putT,List.map_set]
   refine List.ext_getElem? fun j=>?_
   by_cases hj:i=j
   ·subst hj
    rw [List.getElem?_set_self (by simpa using hlt),Lgm,hi]
    rfl
   rw [List.getElem?_set_ne hj]
  rw [e]
  exact h.nd
 intro p hp
 rcases List.mem_or_eq_of_mem_set hp with hp | rfl
 ·exact h.ok p hp
 obtain ⟨o,h1,h2,h3⟩:=h.ok q (Lmg hi)
 exact ⟨o,h1,by rw [← h2];exact hl,h3⟩
structure SI (obs:List HOb) (i:Nat) (T:TL):Prop where
 ti:TI obs T
 new:∀ j,j < i → ∀ q,T[j]?=some q → validW (tos T) q.2.fs=true
 old:∀ j,i ≤ j → ∀ q,T[j]?=some q → ∃ o,obAt obs q.1=some o ∧ q.2.fs=o.fs
theorem mvT_old {obs:List HOb} {i:Nat} {T:TL} (h:∀ j,i ≤ j → ∀ q,T[j]?=some q → ∃ o,obAt obs q.1=some o ∧ q.2.fs=o.fs) (x:Int):∀ j,i ≤ j → ∀ q,(mvT obs T x)[j]?=some q → ∃ o,obAt obs q.1=some o ∧ q.2.fs=o.fs:=by
 unfold mvT
 split
 ·exact h
 split
 ·exact h
 rename_i o ho
 intro j hj q hq
 rcases Nat.lt_or_ge j T.length with hlt | hlt
 ·rw [List.getElem?_append_left hlt] at hq
  exact h j hj q hq
 rw [List.getElem?_append_right hlt] at hq
 have:=Lmg hq
 rw [List.mem_singleton.1 this]
 exact ⟨o,ho,rfl⟩
theorem mvW_old {obs:List HOb} {i:Nat} {T:TL} (h:∀ j,i ≤ j → ∀ q,T[j]?=some q → ∃ o,obAt obs q.1=some o ∧ q.2.fs=o.fs) (l:List Word):∀ j,i ≤ j → ∀ q,(mvW obs T l).2[j]?=some q → ∃ o,obAt obs q.1=some o ∧ q.2.fs=o.fs:=by
 induction l generalizing T with
 | nil=>exact h
 | cons w l ih =>
   unfold mvW
   split
   ·exact ih (mvT_old h w.n)
   exact ih h
theorem SI.step {obs:List HOb} {i:Nat} {T:TL} (h:SI obs i T) (hv:∀ o ∈ obs,validW obs o.fs=true) {q:Int × HOb} (hq:T[i]?=some q) :
 SI obs (i + 1) (putT (mvW obs T q.2.fs).2 i q (mvW obs T q.2.fs).1) ∧ (mvW obs T q.2.fs).2[i]?=some q ∧ validW obs q.2.fs=true ∧ ∀ x,hasF (tos T) x=true → hasF (tos (putT (mvW obs T q.2.fs).2 i q (mvW obs T q.2.fs).1)) x=true:=by
 obtain ⟨o,ho,hf⟩:=h.old i (Nat.le_refl _) q hq
 have hval:validW obs q.2.fs=true:=by rw [hf];exact hv o (obAt_mem ho)
 obtain ⟨E,hE⟩:=mvW_pre obs T q.2.fs
 have hlt:i < T.length:=by
  rcases Nat.lt_or_ge i T.length with h | h
  ·exact h
  rw [List.getElem?_eq_none h] at hq;cases hq
 have hq2:(mvW obs T q.2.fs).2[i]?=some q:=by rw [hE,List.getElem?_append_left hlt];exact hq
 have hlt2:i < (mvW obs T q.2.fs).2.length:=by rw [hE,List.length_append];omega
 have hm1:∀ x,hasF (tos T) x=true → hasF (tos (mvW obs T q.2.fs).2) x=true:=fun x hx=>by rw [hE,tos_app];exact hasF_app hx
 have hm2:∀ x,hasF (tos (mvW obs T q.2.fs).2) x=true → hasF (tos (putT (mvW obs T q.2.fs).2 i q (mvW obs T q.2.fs).1)) x=true:=fun x hx=>by rw [tos_set];exact hasF_set (tos_get hq2) hx
 refine ⟨⟨(h.ti.mvW _).put hq2 (mvW_len ..),fun j hj p hp=>?_,fun j hj p hp=>?_⟩,hq2,hval,fun x hx=>hm2 x (hm1 x hx)⟩
 ·rcases Nat.lt_or_ge j i with hji | hji
  ·rw [putT,List.getElem?_set_ne (by omega),hE,List.getElem?_append_left (by omega)] at hp
   exact validW_mono (fun x hx=>hm2 x (hm1 x hx)) (h.new j hji p hp)
  obtain rfl:j=i:=by omega
  rw [putT,List.getElem?_set_self hlt2] at hp
  cases hp
  exact validW_mono hm2 (mvW_valid hval)
 rw [putT,List.getElem?_set_ne (by omega)] at hp
 exact mvW_old (i:=i) h.old q.2.fs j (by omega) p hp
theorem SI.fin {obs:List HOb} {i:Nat} {T:TL} (h:SI obs i T) (hi:T.length ≤ i):TI obs T ∧ (∀ o ∈ tos T,validW (tos T) o.fs=true) ∧ ∀ x,hasF (tos T) x=true → hasF (tos T) x=true:=by
 refine ⟨h.ti,fun o ho=>?_,fun x hx=>hx⟩
 obtain ⟨q,hq,rfl⟩:=List.mem_map.1 ho
 obtain ⟨j,hj⟩:=List.getElem?_of_mem hq
 have hlt:j < T.length:=by
  rcases Nat.lt_or_ge j T.length with h | h
  ·exact h
  rw [List.getElem?_eq_none h] at hj;cases hj
 exact h.new j (by omega) q hj
theorem scan_ok {obs:List HOb} (hv:∀ o ∈ obs,validW obs o.fs=true) {k i:Nat} {T:TL} (h:SI obs i T) (hk:obs.length < k + i) :
 TI obs (scanT obs k i T) ∧ (∀ o ∈ tos (scanT obs k i T),validW (tos (scanT obs k i T)) o.fs=true) ∧ ∀ x,hasF (tos T) x=true → hasF (tos (scanT obs k i T)) x=true:=by
 induction k generalizing i T with
 | zero =>
   have:=h.ti.len
   exact h.fin (by omega)
 | succ k ih =>
   unfold scanT
   split
   ·rename_i hn
    exact h.fin (List.getElem?_eq_none_iff.1 hn)
   rename_i q hq
   obtain ⟨h1,h2,h3,h4⟩:=h.step hv hq
   obtain ⟨a,b,c⟩:=ih h1 (by omega)
   exact ⟨a,b,fun x hx=>c x (h4 x hx)⟩
theorem SI.root {h:RH} (k:HInv h) (roots:List Word):SI h.obs 0 (mvW h.obs [] roots).2:=by
 have h0:TI h.obs []:=⟨trivial,by simp,by simp⟩
 exact ⟨h0.mvW roots,fun j hj=>absurd hj (Nat.not_lt_zero _),mvW_old (i:=0) (T:=[]) (fun j _ q hq=>by simp at hq) roots⟩
theorem collect_inv {h:RH} (k:HInv h) {roots:List Word} (hr:validW h.obs roots=true) :
 HInv (collectP h roots).1 ∧ validW (collectP h roots).1.obs (collectP h roots).2=true ∧ (collectP h roots).2.length=roots.length ∧ (collectP h roots).1.size=h.size:=by
 obtain ⟨a,b,c⟩:=scan_ok k.v (SI.root k roots) (k:=h.obs.length + 1) (by omega)
 refine ⟨⟨a.ad,?_,a.fs k.f,b,k.sz⟩,validW_mono c (mvW_valid hr),mvW_len ..,J⟩
 have h1:=a.len
 have h2:=k.n
 have h3:(tos (scanT h.obs (h.obs.length + 1) 0 (mvW h.obs [] roots).2)).length=(scanT h.obs (h.obs.length + 1) 0 (mvW h.obs [] roots).2).length:=List.length_map ..
 show (tos _).length ≤ _
 omega
end Go.Sim.W
namespace Go.Sim.W
open Go Go.Sim
def mvV (T:TL) (x:Int):Int:=match tAt T x with
 | some o=>o.at_ + 1
 | none=>0
structure FM (X:List Nat) (it:Nat) (S S':Sg):Prop where
 nx:S.nx ≤ S'.nx
 mn:S.mn ≤ S'.mn
 mu:∀ g,g < S.mn → g ∉ X → ¬ own [it] S g → S'.mu g=S.mu g ∧ ¬ own [it] S' g
theorem FM.refl (X:List Nat) (it:Nat) (S:Sg):FM X it S S:=⟨Nat.le_refl _,Nat.le_refl _,fun _ _ _ h=>⟨rfl,h⟩⟩
theorem FM.trans {X:List Nat} {it:Nat} {A B C:Sg} (h:FM X it A B) (k:FM X it B C):FM X it A C :=
 ⟨Nat.le_trans h.nx k.nx,Nat.le_trans h.mn k.mn,fun g hg hx ho=>by
  obtain ⟨a,b⟩:=h.mu g hg hx ho
  obtain ⟨c,d⟩:=k.mu g (Nat.lt_of_lt_of_le hg h.mn) hx b
  exact ⟨c.trans a,d⟩⟩
structure CS (s0:Sg) (h:RH) (ih it ib hb gm:Nat) (T:TL) (S:Sg):Prop where
 kl:KL [] s0 S
 to:SP it [] (tos T) S
 fit:s0.nx ≤ it
 fib:s0.nx ≤ ib ∧ ib < S.nx ∧ ib ≠ it
 fhb:s0.nx ≤ hb ∧ hb < S.nx ∧ hb ≠ it
 ob:S.ob ib=some (.row [.ms gm 0 (cellsF h.obs).length 1])
 oh:S.ob hb=some (.row [.ptr ih 0])
 fgm:s0.mn ≤ gm ∧ gm < S.mn
 gto:¬ own [it] S gm
 fown:∀ g,own [it] S g → s0.mn ≤ g
 mvd:∃ m:List Int,S.mu gm=some (m.map I) ∧ m.length=(cellsF h.obs).length ∧ ∀ x,hasF h.obs x=true → m[x.toNat]?=some (mvV T x)
 ti:TI h.obs T
def LM (v:AV) (ws:List Word) (S:Sg):Prop:=(ws=[] ∧ ∃ o,v=.slice o 2 []) ∨ ∃ g,v=.ms g 0 ws.length 2 ∧ S.mu g=some (flat (wcs ws)) ∧ g < S.mn
theorem LM.rl {v:AV} {ws:List Word} {S:Sg} (h:LM v ws S):RL 2 v (wcs ws) S:=by
 refine ⟨wcs_sz _,?_⟩
 rcases h with ⟨rfl,o,rfl⟩ | ⟨g,rfl,h1,h2⟩
 ·exact .inl ⟨o,rfl⟩
 exact .inr ⟨g,0,_,by rw [lw],h1,h2,by rw [flat_len (wcs_sz _)];omega,by rw [List.drop_zero,List.take_of_length_le (by rw [flat_len (wcs_sz _)];exact Nat.le_refl _)]⟩
theorem FM.mset {it gm gl:Nat} {S S':Sg} {x:Option (List AV)} (h:FM [gm] it S S'):FM [gm,gl] it S { S' with mu:=upd S'.mu gl x } :=
 ⟨h.nx,h.mn,fun g hg hx ho=>by
  simp only [List.mem_cons,List.not_mem_nil,or_false,not_or] at hx
  obtain ⟨a,b⟩:=h.mu g hg (by simpa using hx.1) ho
  exact ⟨(upd_ne _ _ hx.2).trans a,b⟩⟩
theorem own_lt {i:Nat} {pre:List AV} {c:List Word} {z o:List Int} {S:Sg} {g:Nat} (h:T3 i pre c z o S) (hp:tks pre=[]) (ho:own [i] S g):g < S.mn:=by
 obtain ⟨vc,vs,vo,g1,g2,g3,g4,g5,g6⟩:=h
 have:=(own_row g1).1 ho
 rw [tks_app,hp,List.nil_append] at this
 simp only [tks,List.flatMap_cons,List.flatMap_nil,List.append_nil,List.mem_append] at this
 rcases this with h | h | h
 ·exact g3.wlt h
 ·exact g4.wlt h
 exact g5.wlt h
theorem mi_rl {S:Sg} {g k:Nat} {m:List Int} (h:S.mu g=some (m.map I)) (hl:g < S.mn) (hk:m.length=k):RL 1 (.ms g 0 k 1) (m.map I) S:=by
 subst hk
 have e:flat (m.map I)=m.map I:=by
  clear h
  induction m with
  | nil=>rfl
  | cons a m ih =>
    have:flat ((a :: m).map I)=[I a] ++ flat (m.map I):=rfl
    rw [this,ih]
    rfl
 exact ⟨ints_sz _,.inr ⟨g,0,_,by rw [List.length_map],h,hl,by simp,by rw [List.drop_zero,e,List.take_of_length_le (by simp)]⟩⟩
theorem own_mu {i:Nat} {S:Sg} {m:Nat → Option (List AV)} {g:Nat}:own [i] { S with mu:=m } g ↔ own [i] S g:=Iff.rfl
theorem T3.mset {i:Nat} {pre:List AV} {c:List Word} {z o:List Int} {S:Sg} {g:Nat} {x:Option (List AV)} (h:T3 i pre c z o S) (hg:¬ own [i] S g):T3 i pre c z o { S with mu:=upd S.mu g x }:=by
 obtain ⟨vc,vs,vo,g1,g2,g3,g4,g5,g6⟩:=h
 have ho:∀ g' ∈ tks [vc,vs,vo],g' ≠ g:=fun g' hg' e=>hg (e ▸ (own_row g1).2 (by rw [tks_app];simp [hg']))
 have m:∀ {sz n:Nat} {v:AV} {cs:List AV},WL sz v n cs S → (∀ g ∈ tk v,g ∈ tks [vc,vs,vo]) → WL sz v n cs { S with mu:=upd S.mu g x }:=fun w hw=>w.mono (fun g' hg'=>upd_ne _ _ (ho g' (hw g' hg'))) (Nat.le_refl _)
 exact ⟨vc,vs,vo,g1,g2,m g3 (fun g h=>by simp [tks,h]),m g4 (fun g h=>by simp [tks,h]),m g5 (fun g h=>by simp [tks,h]),g6⟩
theorem CS.mset {s0:Sg} {h:RH} {ih it ib hb gm gl:Nat} {T:TL} {S:Sg} (k:CS s0 h ih it ib hb gm T S) {x:Option (List AV)} (h1:s0.mn ≤ gl) (h2:gl ≠ gm) (h3:¬ own [it] S gl) :
 CS s0 h ih it ib hb gm T { S with mu:=upd S.mu gl x }:=by
 obtain ⟨m,m1,m2,m3⟩:=k.mvd
 exact ⟨⟨⟨k.kl.e.nx,k.kl.e.ob,k.kl.e.gn,k.kl.e.gl,k.kl.e.Q⟩,k.kl.mn,fun g hg hx=>(upd_ne _ _ (by omega)).trans (k.kl.mu g hg hx)⟩,k.to.mset h3,k.fit,k.fib,k.fhb,k.ob,k.oh,k.fgm,k.gto,k.fown,⟨m,(upd_ne _ _ (Ne.symm h2)).trans m1,m2,m3⟩,k.ti⟩
theorem addrs_ge {a:Int} {l:List HOb} (h:addrs a l):∀ o ∈ l,a ≤ o.at_ ∧ o.at_ ≤ a + (cellsF l).length:=by
 intro o ho
 obtain ⟨l1,l2,rfl⟩:=List.append_of_mem ho
 have h2:=(addrs_app.1 h).2.1
 rw [cells_app,List.length_append]
 omega
theorem mvV_at {obs:List HOb} {T:TL} (k:TI obs T) {x:Int} {o:HOb} (h:tAt T x=some o):mvV T x=o.at_ + 1 ∧ nad T x=o.at_ ∧ 0 ≤ o.at_ ∧ o.at_ ≤ (cellsF (tos T)).length:=by
 have:=addrs_ge k.ad o (List.mem_map.2 ⟨_,tAt_mem h,rfl⟩)
 exact ⟨by rw [mvV,h],by rw [nad,h],this.1,by omega⟩
theorem mvV_zero {obs:List HOb} {T:TL} (k:TI obs T) {x:Int} (h:mvV T x=0):tAt T x=none:=by
 cases ht:tAt T x with
 | none=>rfl
 | some o =>
   obtain ⟨h1,_,h2,_⟩:=mvV_at k ht
   omega
theorem tAt_snoc {T:TL} {x y:Int} {o:HOb} (h:tAt T x=none):tAt (T ++ [(x,o)]) y=if y=x then some o else tAt T y:=by
 by_cases hy:y=x
 ·subst hy
  have e:List.find? (fun q=>decide (q.1=y)) T=none:=Option.map_eq_none_iff.1 h
  simp only [tAt,List.find?_append,e,Option.none_or,if_true]
  simp
 rw [if_neg hy]
 simp only [tAt,List.find?_append,List.find?_cons,decide_eq_false (Ne.symm hy),List.find?_nil,Option.or_none]
theorem mvT_new {obs:List HOb} {T:TL} {x:Int} {o:HOb} (h1:tAt T x=none) (h2:obAt obs x=some o):mvT obs T x=T ++ [(x,⟨(cellsF (tos T)).length,o.tag,o.fs⟩)]:=by
 unfold mvT
 simp only [h1,h2]
theorem mvT_old2 {obs:List HOb} {T:TL} {x:Int} {o:HOb} (h1:tAt T x=some o):mvT obs T x=T:=by
 unfold mvT
 simp only [h1]
theorem CS.put {s0:Sg} {h:RH} {ih it ib hb gm:Nat} {T:TL} {S S2:Sg} (k:CS s0 h ih it ib hb gm T S) {x:Int} {o:HOb} (h1:tAt T x=none) (h2:obAt h.obs x=some o) (ha:addrs 0 h.obs)
 (h3:SP it [] (tos T ++ [⟨(cellsF (tos T)).length,o.tag,o.fs⟩]) S2) (h4:KX [it] S S2) {m:List Int} (hm:S.mu gm=some (m.map I)) :
 S2.mu gm=some (m.map I) ∧ CS s0 h ih it ib hb gm (mvT h.obs T x) { S2 with mu:=upd S2.mu gm (some (wr (m.map I) x.toNat [I ((cellsF (tos T)).length + 1)])) } ∧ FM [gm] it S { S2 with mu:=upd S2.mu gm (some (wr (m.map I) x.toNat [I ((cellsF (tos T)).length + 1)])) }:=by
 obtain ⟨m',m1,m2,m3⟩:=k.mvd
 obtain rfl:m'=m:=by
  rw [hm] at m1
  have:=Option.some.inj m1
  exact ((List.map_inj_right fun a b e=>by injection e with e;injection e).1 this).symm
 have hmu:S2.mu gm=some (m'.map I):=(h4.mu gm k.fgm.2 k.gto).trans hm
 have hno:∀ g,g < S.mn → ¬ own [it] S g → ¬ own [it] S2 g:=fun g hg ho h=>(h4.own g h).elim ho fun h=>by omega
 obtain ⟨x0,x1,_,x3,_⟩:=obAt_cells ha h2
 have hlt:x.toNat < m'.length:=by omega
 refine ⟨hmu,⟨⟨⟨Nat.le_trans k.kl.e.nx h4.nx,fun i hi=>?_,Nat.le_trans k.kl.e.gn h4.gn,fun g hg=>(h4.gl g (Nat.lt_of_lt_of_le hg k.kl.e.gn)).trans (k.kl.e.gl g hg),h4.Q.trans k.kl.e.Q⟩,Nat.le_trans k.kl.mn h4.mn,fun g hg hx=>?_⟩,?_,k.fit,⟨k.fib.1,Nat.lt_of_lt_of_le k.fib.2.1 h4.nx,k.fib.2.2⟩,⟨k.fhb.1,Nat.lt_of_lt_of_le k.fhb.2.1 h4.nx,k.fhb.2.2⟩,?_,?_,⟨k.fgm.1,Nat.lt_of_lt_of_le k.fgm.2 h4.mn⟩,hno gm k.fgm.2 k.gto,fun g hg=>?_,?_,k.ti.mvT x⟩,⟨h4.nx,h4.mn,fun g hg hx ho=>⟨(upd_ne _ _ (by simpa using hx)).trans (h4.mu g hg ho),hno g hg ho⟩⟩⟩
 ·have:=k.fit
  exact (h4.ob i (Nat.lt_of_lt_of_le hi k.kl.e.nx) (by simp;omega)).trans (k.kl.e.ob i hi)
 ·have:=k.fgm.1
  refine (upd_ne _ _ (by omega)).trans ((h4.mu g (Nat.lt_of_lt_of_le hg k.kl.mn) fun ho=>?_).trans (k.kl.mu g hg hx))
  have:=k.fown g ho
  omega
 ·rw [mvT_new h1 h2,tos_app]
  exact h3.mset (hno gm k.fgm.2 k.gto)
 ·exact (h4.ob ib k.fib.2.1 (by simpa using k.fib.2.2)).trans k.ob
 ·exact (h4.ob hb k.fhb.2.1 (by simpa using k.fhb.2.2)).trans k.oh
 ·rcases h4.own g hg with h | h
  ·exact k.fown g h
  exact Nat.le_trans k.kl.mn h
 refine ⟨m'.set x.toNat ((cellsF (tos T)).length + 1),?_,by simpa using m2,fun y hy=>?_⟩
 ·show upd S2.mu gm _ gm=_
  rw [upd_same]
  refine congrArg some ?_
  rw [List.map_set]
  simp only [wr,List.length_singleton]
  rw [List.set_eq_take_append_cons_drop,if_pos (by simpa using hlt)]
  simp
 rw [mvT_new h1 h2,mvV,tAt_snoc h1]
 obtain ⟨o',ho'⟩:=Option.isSome_iff_exists.1 hy
 obtain ⟨y0,_⟩:=obAt_cells ha ho'
 by_cases hxy:y=x
 ·subst hxy
  rw [if_pos rfl,List.getElem?_set_self hlt]
 rw [if_neg hxy,List.getElem?_set_ne (by omega)]
 exact m3 y hy
theorem wr_word {dn rest:List Word} {w:Word} {n:Int} (hr:w.ref=true):wr (flat (wcs (dn ++ w :: rest))) (dn.length * 2 + 1) [I n]=flat (wcs ((dn ++ [⟨true,n⟩]) ++ rest)):=by
 have e:flat (wcs (dn ++ w :: rest))=flat (wcs dn) ++ ([B w.ref,I w.n] ++ flat (wcs rest)):=by rw [wcs_app,flat_app];rfl
 have e2:flat (wcs ((dn ++ [⟨true,n⟩]) ++ rest))=flat (wcs dn) ++ ([B true,I n] ++ flat (wcs rest)):=by rw [wcs_app,wcs_app,flat_app,flat_app,List.append_assoc];rfl
 have hl:(flat (wcs dn)).length=dn.length * 2:=by rw [flat_len (wcs_sz _),lw]
 rw [e,e2,wr,hr,← hl]
 rw [List.take_append,List.drop_append,List.take_of_length_le (by omega),List.drop_eq_nil_of_le (by simp;omega)]
 rw [show (flat (wcs dn)).length + 1 - (flat (wcs dn)).length=1 from by omega,show (flat (wcs dn)).length + 1 + [I n].length - (flat (wcs dn)).length=2 from by simp;omega]
 simp
theorem move_l (s0:Sg) (h:RH) (ih it ib hb gm:Nat) (hi:HInv h) (hs0:SP ih [I h.size] h.obs s0) (u:AV) (rest:List Word) (dd:List Word) (T:TL) (N:Nat) (hN:N=dd.length + rest.length) (hl:N ≤ 2 ^ 30) {n:Nat} {v:Nat → Bool} {D:List (Nat × List AV)} {S:Sg} {Q:Ex → Fr → Prop} (hC:CS s0 h ih it ib hb gm T S) (hu:LM u (dd ++ rest) S) (hg:∀ g ∈ tk u,s0.mn ≤ g ∧ g ≠ gm ∧ ¬ own [it] S g) (hv:validW h.obs rest=true)
 (hX:∀ k S',CS s0 h ih it ib hb gm (mvW h.obs T rest).2 S' → LM u (dd ++ (mvW h.obs T rest).1) S' → FM (gm :: tk u) it S S' → (∀ g ∈ tk u,¬ own [it] S' g) → Q (.exit 0) ⟨upd (upd (upd (upd (upd (upd (upd (upd ((fun _=>none)) 10 (some (.val (B false)))) 9 (some (.val (I k)))) 8 (some (.val (I N)))) 7 (some (.val u))) 3 (some (.val (.ptr hb 0)))) 2 (some (.val (.ptr it 0)))) 1 (some (.val (.ptr ib 0)))) 0 (some (.val u)),(fun _=>none),n,v,D,S'⟩):EX (callL p) (.loop F67_l1) ⟨upd (upd (upd (upd (upd (upd (upd ((fun _=>none)) 9 (some (.val (I dd.length)))) 8 (some (.val (I N)))) 7 (some (.val u))) 3 (some (.val (.ptr hb 0)))) 2 (some (.val (.ptr it 0)))) 1 (some (.val (.ptr ib 0)))) 0 (some (.val u)),(fun _=>none),n,v,D,S⟩ Q:=by
 refine eloop (er (qp J (qb ?_)))
 rintro (_ | _) h1
 refine qn (kq8 J) kn (eseq (ecF J (eexit (sqx ?_))))
 have he:rest=[]:=by
  simp at h1
  exact List.length_eq_zero_iff.1 (by omega)
 subst he
 exact hX _ _ hC (by simpa [mvW] using hu) (FM.refl _ _ _) (fun g h=>(hg g h).2.2)
 refine qn (kq8 J) kn (eseq (ecT J (eskip (sqn (eseq (eblock (er (qp J ?_))))))))
 obtain ⟨w,rest,rfl⟩:∃ w r,rest=w :: r:=by
  cases rest with
  | nil=>simp at h1;simp at hN;omega
  | cons w r=>exact ⟨w,r,rfl⟩
 obtain ⟨gl,rfl,l1,l2⟩:∃ g,u=.ms g 0 (dd ++ w :: rest).length 2 ∧ S.mu g=some (flat (wcs (dd ++ w :: rest))) ∧ g < S.mn:=by
  rcases hu with ⟨h,_⟩ | h
  ·simp at h
  exact h
 rw [List.length_cons] at hN
 obtain ⟨hv1,hv2⟩:=validW_cons.1 hv
 have hgl:=hg gl (by simp [tk])
 obtain ⟨q,q1,q2⟩:=hu.rl.at_ (j:=(dd.length:Int)) (y:=w.enc) (by omega) (by rw [wcs_app,Int.toNat_natCast,List.getElem?_append_right (by rw [lw];exact Nat.le_refl _),lw,Nat.sub_self];rfl)
 refine hiaR rfl rfl q1 (hldR (y:=.agg [B w.ref,I w.n]) rfl q2 rfl (hal (dc (dc (dc (dc (dc (dc (dc (dc (dc (dc (dc dn rfl) rfl) rfl) rfl) rfl) rfl) rfl) rfl) rfl) rfl) rfl) (qp rfl (hstl rfl rfl rfl rfl (Nlb rfl) (lc rfl (lc rfl (ln rfl))) (qk (kc rfl (kc rfl (kc rfl (kc rfl (kc rfl (kc rfl (kc rfl (kc rfl (kc rfl kn))))))))) (kc rfl kn) (sqn (eseq (eseq (ereg (qp rfl (qp rfl (qb ?_))))))))))))
 rintro (_ | _) h2
 refine qp J (qn (kq10 J) (kq1 J) (ecT J (eexit (sqx (bqx (sqn (ereg (hadd J J (i64w (by omega)) (qp J (qk (kq7 J) kn ?_))))))))))
 first
 | (have hr:w.ref=false:=by simpa using h2
    have e:mvW h.obs T (w :: rest)=(w :: (mvW h.obs T rest).1,(mvW h.obs T rest).2):=by rw [mvW,if_neg (by simp [hr])]
    have:=move_l s0 h ih it ib hb gm hi hs0 (.ms gl 0 (dd ++ w :: rest).length 2) rest (dd ++ [w]) T N (by simp;omega) hl hC (.inr ⟨gl,by simp,by rw [List.append_assoc];exact l1,l2⟩) hg hv2 (fun k S' c1 c2 c3 c4=>hX k S' (by rw [e];exact c1) (by rw [e];rw [List.append_assoc] at c2;exact c2) c3 c4)
    rw [List.length_append] at this
    exact this)
 | (have e:mvW h.obs T (w :: rest)=(⟨true,nad (mvT h.obs T w.n) w.n⟩ :: (mvW h.obs (mvT h.obs T w.n) rest).1,(mvW h.obs (mvT h.obs T w.n) rest).2):=by rw [mvW,if_pos hr]
    have:=move_l s0 h ih it ib hb gm hi hs0 (.ms gl 0 (dd ++ w :: rest).length 2) rest (dd ++ [⟨true,nad (mvT h.obs T w.n) w.n⟩]) (mvT h.obs T w.n) N (by simp;omega) hl C2 (.inr ⟨gl,by simp,upd_same _ _ _,l4⟩) (fun g hg1=>by rw [List.mem_singleton.1 hg1];exact ⟨hgl.1,hgl.2.1,hgl4⟩) hv2 (fun k S' c1 c2 c3 c4=>hX k S' (by rw [e];exact c1) (by rw [e];rw [List.append_assoc] at c2;exact c2) (F2.trans c3) c4)
    rw [List.length_append] at this
    exact this)
 refine qp J (qn (kq10 J) (kq1 J) (ecF J (eskip (sqn (eseq (er ?_))))))
 have hr:w.ref=true:=by simpa using h2
 have hw:=hv1 hr
 obtain ⟨o,ho⟩:=Option.isSome_iff_exists.1 hw
 obtain ⟨x0,x1,_,x3,_⟩:=obAt_cells hi.ad ho
 obtain ⟨m,m1,m2,m3⟩:=hC.mvd
 have hle:=hC.ti.cells hi
 have hle2:=hi.le
 refine hldo J hC.ob J ?_
 refine pq2 J ?_
 have rm:=mi_rl m1 hC.fgm.2 m2
 obtain ⟨q3,q4,q5⟩:=rm.at_ (j:=w.n) (y:=I (mvV T w.n)) x0 (by rw [Lgm,m3 w.n hw];rfl)
 refine hiaR rfl rfl q4 (hldR (y:=I (mvV T w.n)) rfl q5 rfl (qp rfl (qb ?_)))
 rintro (_ | _) h3
 obtain ⟨o2,ho2⟩:∃ o2,tAt T w.n=some o2:=by
  cases ht:tAt T w.n with
  | none=>simp [mvV,ht] at h3
  | some o2=>exact ⟨o2,rfl⟩
 have C1:=hC
 have F1:=FM.refl [gm] it S
 rw [← mvT_old2 (obs:=h.obs) ho2] at C1
 refine qn (kq10 J) (kq1 J) (ecF J (eskip (sqn (ereg (pq2 J ?_)))))
 rotate_left
 refine qn (kq10 J) (kq1 J) (ecT J (ereg ?_))
 have hn:=mvV_zero hC.ti (Odt h3)
 have hT1:=hs0.kl hC.kl (by simp)
 refine hldoF J J hC.ob J ?_
 refine pq2 J (hldo J hC.oh J ?_)
 refine pq4 J ?_
 refine hcallk J J J (htag_c _ ih [I h.size] h.obs w.n o hT1 hi.ad ho) ?_ ?_
 rintro _ _ ⟨rfl,rfl⟩
 exact ⟨.inl ⟨ib,0,_,rfl,hC.ob,hC.ob⟩,.inl ⟨hb,0,_,rfl,hC.oh,hC.oh⟩,rfl⟩
 rintro _ _ ⟨rfl,rfl⟩
 refine hldoF J J hC.oh J ?_
 refine pq4 J ?_
 refine hcallk J J J (hfields_c _ ih [I h.size] h.obs w.n o hT1 hi.ad ho (by omega)) ?_ ?_
 rintro _ _ ⟨v1,rfl,rfl,_⟩
 exact ⟨.inl ⟨ib,0,_,rfl,hC.ob,hC.ob⟩,rfl⟩
 rintro _ _ ⟨v1,rfl,rfl,hv3,hv4,hv5⟩
 refine hcallk rfl rfl rfl (put_c _ it [] (tos T) o.tag v1.er o.fs rfl hC.to hv3.ere (fun g hg1 ho1=>by
  rw [tk_er] at hg1
  have a:=hC.fown g ho1
  have b:=hv4 g hg1
  have c:own [ih] s0 g:=hC.kl.own hs0.lt b
  have d:=own_lt hs0 rfl c
  omega) (by have:=hi.f o (obAt_mem ho);omega) (by have:=hC.ti.len;have:=hi.n;have e:(tos T).length=T.length:=List.length_map ..;omega)) ?_ ?_
 rintro _ S2 ⟨rfl,hP2,hK2⟩
 exact ⟨.inl ⟨ib,0,_,rfl,hC.ob,(hK2.ob ib hC.fib.2.1 (by simpa using hC.fib.2.2)).trans hC.ob⟩,hK2.Q⟩
 rintro _ S2 ⟨rfl,hP2,hK2⟩
 obtain ⟨hm2,C1,F1⟩:=hC.put hn ho hi.ad hP2 hK2 m1
 refine hadd rfl rfl (i64w (by omega)) (hiam rfl rfl x0 (by omega) (hstm (cs':=wr (m.map I) w.n.toNat [I ((cellsF (tos T)).length + 1)]) rfl rfl hm2 rfl (by simp [m2,I,AV.cells];omega) (by simp [I]) (by rw [Nat.mul_one,Nat.zero_add];rfl) (qk (kc rfl (kc rfl (kc rfl (kc rfl (kc rfl (kc rfl (kc rfl (kc rfl (kc rfl kn))))))))) (kc rfl kn) (sqn (ereg (qp rfl (qp rfl ?_)))))))
 rotate_left
 all_goals
  obtain ⟨o1,ho1⟩:=mvT_at (T:=T) hw
  obtain ⟨v1,v2,v3,v4⟩:=mvV_at C1.ti ho1
  have hle1:=C1.ti.cells hi
  obtain ⟨m1,n1,n2,n3⟩:=C1.mvd
  obtain ⟨k1,hgl4⟩:=F1.mu gl l2 (by simpa using hgl.2.1) hgl.2.2
  have l4:=Nat.lt_of_lt_of_le l2 F1.mn
  refine hldo J C1.ob J ?_
  refine pq2 J ?_
  have rm1:=mi_rl n1 C1.fgm.2 n2
  obtain ⟨q6,q7,q8⟩:=rm1.at_ (j:=w.n) (y:=I (mvV (mvT h.obs T w.n) w.n)) x0 (by rw [Lgm,n3 w.n hw];rfl)
  refine hiaR rfl rfl q7 (hldR (y:=I (mvV (mvT h.obs T w.n) w.n)) rfl q8 rfl (hsub rfl rfl (r:=nad (mvT h.obs T w.n) w.n) (by rw [v1,v2];exact (i64w (by omega)).trans (by omega)) (hiam rfl rfl (by omega) (by simp) (qp rfl (hstm (cs':=flat (wcs ((dd ++ [⟨true,nad (mvT h.obs T w.n) w.n⟩]) ++ rest))) rfl rfl (k1.trans l1) rfl (by rw [flat_len (wcs_sz _),lw];simp [I,AV.cells];omega) (by simp [I]) (by rw [← wr_word hr,Nat.zero_add,Int.toNat_natCast];rfl) ?_)))))
  have C2:=C1.mset (x:=some (flat (wcs ((dd ++ [⟨true,nad (mvT h.obs T w.n) w.n⟩]) ++ rest)))) hgl.1 hgl.2.1 hgl4
  have F2:=F1.mset (gl:=gl) (x:=some (flat (wcs ((dd ++ [⟨true,nad (mvT h.obs T w.n) w.n⟩]) ++ rest))))
  refine qk (kq7 J) kn (bqn (sqn (ereg (hadd J J (i64w (by omega)) (qp J (qk (kq7 J) kn ?_))))))
  first
  | (have hr:w.ref=false:=by simpa using h2
     have e:mvW h.obs T (w :: rest)=(w :: (mvW h.obs T rest).1,(mvW h.obs T rest).2):=by rw [mvW,if_neg (by simp [hr])]
     have:=move_l s0 h ih it ib hb gm hi hs0 (.ms gl 0 (dd ++ w :: rest).length 2) rest (dd ++ [w]) T N (by simp;omega) hl hC (.inr ⟨gl,by simp,by rw [List.append_assoc];exact l1,l2⟩) hg hv2 (fun k S' c1 c2 c3 c4=>hX k S' (by rw [e];exact c1) (by rw [e];rw [List.append_assoc] at c2;exact c2) c3 c4)
     rw [List.length_append] at this
     exact this)
  | (have e:mvW h.obs T (w :: rest)=(⟨true,nad (mvT h.obs T w.n) w.n⟩ :: (mvW h.obs (mvT h.obs T w.n) rest).1,(mvW h.obs (mvT h.obs T w.n) rest).2):=by rw [mvW,if_pos hr]
     have:=move_l s0 h ih it ib hb gm hi hs0 (.ms gl 0 (dd ++ w :: rest).length 2) rest (dd ++ [⟨true,nad (mvT h.obs T w.n) w.n⟩]) (mvT h.obs T w.n) N (by simp;omega) hl C2 (.inr ⟨gl,by simp,upd_same _ _ _,l4⟩) (fun g hg1=>by rw [List.mem_singleton.1 hg1];exact ⟨hgl.1,hgl.2.1,hgl4⟩) hv2 (fun k S' c1 c2 c3 c4=>hX k S' (by rw [e];exact c1) (by rw [e];rw [List.append_assoc] at c2;exact c2) (F2.trans c3) c4)
     rw [List.length_append] at this
     exact this)
termination_by rest.length
decreasing_by all_goals (first | omega | (simp_all;done) | (simp at *;omega))
end Go.Sim.W
namespace Go.Sim.W
open Go Go.Sim
theorem move_c (s0:Sg) (h:RH) (ih it ib hb gm:Nat) (hi:HInv h) (hs0:SP ih [I h.size] h.obs s0) (s:Sg) (u:AV) (ws:List Word) (T:TL) (hl:ws.length ≤ 2 ^ 30) (hC:CS s0 h ih it ib hb gm T s) (hu:LM u ws s) (hg:∀ g ∈ tk u,s0.mn ≤ g ∧ g ≠ gm ∧ ¬ own [it] s g) (hv:validW h.obs ws=true):HC p N67_ [u,.ptr ib 0,.ptr it 0,.ptr hb 0] s (fun r s'=>r=[] ∧ CS s0 h ih it ib hb gm (mvW h.obs T ws).2 s' ∧ LM u (mvW h.obs T ws).1 s' ∧ FM (gm :: tk u) it s s' ∧ ∀ g ∈ tk u,¬ own [it] s' g):=by
 refine hcf J f67_ J ?_
 simp only [chainOf]
 refine er (qp J (hlenA J hu.rl.len ?_))
 rw [lw]
 refine qp J (qn (kq7 J) kn (eblock (move_l s0 h ih it ib hb gm hi hs0 u ws [] T ws.length (by simp) hl hC hu hg hv ?_)))
 intro k S' c1 c2 c3 c4
 refine bqx (fqn J ?_)
 exact ⟨rfl,c1,c2,c3,c4⟩
theorem callOv {f:Nat} {o:List AV → Sg → Option (List AV × Sg)} {args r:List AV} {s s':Sg} {R:List AV → Sg → Prop} (h1:p.ov f=some o) (h2:o args s=some (r,s')) (h3:R r s'):HC p f args s R:=by
 refine ⟨r,s',?_,h3⟩
 rw [callL_eq,h1]
 exact h2
def MP (v:AV) (ws:List Word) (S:Sg):Prop:=(ws=[] ∧ ∃ o,v=.slice o 2 []) ∨ ∃ g off cs,v=.ms g off ws.length 2 ∧ S.mu g=some cs ∧ g < S.mn ∧ off + ws.length * 2 ≤ cs.length ∧ (cs.drop off).take (ws.length * 2)=flat (wcs ws)
theorem MP.rl {v:AV} {ws:List Word} {S:Sg} (h:MP v ws S):RL 2 v (wcs ws) S:=by
 refine ⟨wcs_sz _,?_⟩
 rcases h with ⟨rfl,o,rfl⟩ | ⟨g,off,cs,rfl,h⟩
 ·exact .inl ⟨o,rfl⟩
 exact .inr ⟨g,off,cs,by rw [lw],by rw [lw];exact h⟩
theorem LM.mp {v:AV} {ws:List Word} {S:Sg} (h:LM v ws S):MP v ws S:=by
 rcases h with h | ⟨g,rfl,h1,h2⟩
 ·exact .inl h
 exact .inr ⟨g,0,_,rfl,h1,h2,by rw [flat_len (wcs_sz _),lw];omega,by rw [List.drop_zero,List.take_of_length_le (by rw [flat_len (wcs_sz _),lw];exact Nat.le_refl _)]⟩
theorem WL.lm {v:AV} {ws:List Word} {S:Sg} (h:WE 2 v (wcs ws) S):LM v ws S:=by
 have hl:=h.1
 rcases h.2 with ⟨h0,rfl⟩ | ⟨g,rfl,h1,h2⟩
 ·exact .inl ⟨List.length_eq_zero_iff.1 (by rwa [lw] at h0),_,rfl⟩
 exact .inr ⟨g,by rw [lw],h1,h2⟩
theorem LM.ere {v:AV} {ws:List Word} {S:Sg} (h:LM v ws S):LM v.er ws S:=by
 rcases h with ⟨h,o,rfl⟩ | ⟨g,rfl,h⟩
 ·exact .inl ⟨h,_,rfl⟩
 exact .inr ⟨g,rfl,h⟩
theorem LM.of_er {v:AV} {ws:List Word} {S:Sg} (h:LM v.er ws S):LM v ws S:=by
 rcases h with ⟨h,o,e⟩ | ⟨g,e,h⟩
 ·cases v <;> simp only [AV.er] at e <;> try cases e
  exact .inl ⟨h,_,rfl⟩
 cases v <;> simp only [AV.er] at e <;> try cases e
 exact .inr ⟨g,rfl,h⟩
theorem MX.kl {X:List Nat} {S S':Sg} (h:MX X S S'):KL X S S':=⟨h.ext,h.mn,h.mu⟩
theorem clone_w {s:Sg} {v:AV} {ws:List Word} (h:MP v ws s) (hl:ws.length ≤ 2 ^ 40):HC p N29_ [v] s (fun r s'=>∃ v',r=[v'] ∧ WE 2 v' (wcs ws) s' ∧ MX [] s s' ∧ ∀ g ∈ tk v',s.mn ≤ g):=by
 have e:p.ov N29_=some (cloneOv 2 16):=rfl
 have em:∀ o,HC p N29_ [.slice o 2 []] s (fun r s'=>∃ v',r=[v'] ∧ WE 2 v' (wcs []) s' ∧ MX [] s s' ∧ ∀ g ∈ tk v',s.mn ≤ g):=fun o =>
  callOv e (r:=[.slice .full 2 []]) (s':=s) (by simp only [cloneOv,if_true]) ⟨_,rfl,⟨rfl,.inl ⟨rfl,rfl⟩⟩,MX.refl _ _,fun g hg=>by cases hg⟩
 rcases h with ⟨rfl,o,rfl⟩ | ⟨g,off,cs,rfl,h1,h2,h3,h4⟩
 ·exact em o
 by_cases hz:ws.length=0
 ·obtain rfl:=List.length_eq_zero_iff.1 hz
  exact callOv e (r:=[.slice .full 2 []]) (s':=s) (by simp only [cloneOv];rfl) ⟨_,rfl,⟨rfl,.inl ⟨rfl,rfl⟩⟩,MX.refl _ _,fun g hg=>by cases hg⟩
 refine callOv e (r:=[.ms s.mn 0 ws.length 2]) (s':={ s with mu:=upd s.mu s.mn (some ((cs.drop off).take (ws.length * 2))),mn:=s.mn + 1 }) ?_ ⟨_,rfl,⟨by rw [flat_len (wcs_sz _)],.inr ⟨s.mn,by rw [lw],?_,Nat.lt_succ_self _⟩⟩,⟨rfl,rfl,rfl,rfl,rfl,Nat.le_succ _,fun g hg _=>upd_ne _ _ (by omega)⟩,fun g hg=>by rw [List.mem_singleton.1 hg];exact Nat.le_refl _⟩
 ·simp only [cloneOv,if_true,if_neg hz,h1,Obs]
  rw [if_pos ⟨h3,by omega⟩]
 show upd s.mu s.mn _ s.mn=_
 rw [upd_same,h4]
theorem own_ob {i:Nat} {S S':Sg} (h:S'.ob=S.ob) {g:Nat}:own [i] S' g ↔ own [i] S g:=by simp only [own,h]
theorem KL.trans0 {A B C:Sg} (h:KL [] A B) (k:KL [] B C):KL [] A C:=h.trans k fun g hg=>by cases hg
theorem CS.mx {s0:Sg} {h:RH} {ih it ib hb gm:Nat} {T:TL} {S S':Sg} (k:CS s0 h ih it ib hb gm T S) (e:MX [] S S'):CS s0 h ih it ib hb gm T S':=by
 obtain ⟨m,m1,m2,m3⟩:=k.mvd
 exact ⟨k.kl.trans0 e.kl,k.to.kl e.kl (by simp),k.fit,⟨k.fib.1,by rw [e.nx];exact k.fib.2.1,k.fib.2.2⟩,⟨k.fhb.1,by rw [e.nx];exact k.fhb.2.1,k.fhb.2.2⟩,by rw [e.ob];exact k.ob,by rw [e.ob];exact k.oh,⟨k.fgm.1,Nat.lt_of_lt_of_le k.fgm.2 e.mn⟩,fun h=>k.gto ((own_ob e.ob).1 h),fun g h=>k.fown g ((own_ob e.ob).1 h),⟨m,(e.mu gm k.fgm.2 (by simp)).trans m1,m2,m3⟩,k.ti⟩
theorem obAt_get {a:Int} {l:List HOb} (ha:addrs a l) {i:Nat} {o:HOb} (h:l[i]?=some o):obAt l o.at_=some o:=by
 induction l generalizing a i with
 | nil=>cases h
 | cons b l ih =>
   cases i with
   | zero =>
     simp only [List.getElem?_cons_zero,Oie] at h
     subst h
     simp [obAt]
   | succ i =>
     have h:l[i]?=some o:=by simpa using h
     have:=(addrs_ge ha.2 o (Lmg h)).1
     have h1:=ha.1
     have:=ih ha.2 h
     simp only [obAt,List.find?_cons] at this ⊢
     rw [decide_eq_false (by omega)]
     exact this
theorem wr_mid {A B B' C:List Word} (h:B'.length=B.length):wr (flat (wcs (A ++ (B ++ C)))) (A.length * 2) (flat (wcs B'))=flat (wcs (A ++ (B' ++ C))):=by
 have hl:∀ l:List Word,(flat (wcs l)).length=l.length * 2:=fun l=>by rw [flat_len (wcs_sz _),lw]
 have e:∀ X Y:List Word,flat (wcs (X ++ Y))=flat (wcs X) ++ flat (wcs Y):=fun X Y=>by rw [wcs_app,flat_app]
 have h2:=hl B
 have h3:=hl B'
 simp only [e,wr,← hl A]
 rw [List.take_left,List.drop_append,List.drop_eq_nil_of_le (by omega),Nat.add_sub_cancel_left,List.nil_append,List.drop_append,List.drop_eq_nil_of_le (by omega),show (flat (wcs B')).length - (flat (wcs B)).length=0 from by omega]
 simp
theorem set_split {α:Type} {l:List α} {i:Nat} {a:α} (h:l[i]?=some a) (b:α):∃ l1 l2,l=l1 ++ a :: l2 ∧ l.set i b=l1 ++ b :: l2:=by
 have hlt:i < l.length:=by
  rcases Nat.lt_or_ge i l.length with h' | h'
  ·exact h'
  rw [List.getElem?_eq_none h'] at h;cases h
 refine ⟨l.take i,l.drop (i + 1),?_,?_⟩
 ·rw [← drop_cons h,List.take_append_drop]
 rw [List.set_eq_take_append_cons_drop,if_pos hlt]
theorem mvV_put {T:TL} {i:Nat} {q:Int × HOb} (hq:T[i]?=some q) {fs:List Word} {x:Int}:mvV (putT T i q fs) x=mvV T x:=by
 obtain ⟨l1,l2,e1,e2⟩:=set_split hq (q.1,⟨q.2.at_,q.2.tag,fs⟩)
 rw [putT,e2]
 conv=>rhs;rw [e1]
 unfold mvV tAt
 rw [List.find?_append,List.find?_append]
 cases h:List.find? (fun q=>decide (q.1=x)) l1 with
 | some y=>rfl
 | none =>
   simp only [List.find?_cons,Option.none_or]
   by_cases hx:q.1=x
   ·simp only [decide_eq_true hx,Option.map_some]
   simp only [decide_eq_false hx]
theorem cpy_ok {s0:Sg} {h:RH} {ih it ib hb gm:Nat} {T:TL} {S:Sg} (k:CS s0 h ih it ib hb gm T S) {i:Nat} {q:Int × HOb} (hq:T[i]?=some q) {v3 v2:AV} {fs:List Word} (hl:fs.length=q.2.fs.length) (h2:LM v2 fs S)
 (h3:q.2.fs=[] ∧ v3=.slice .none 2 [] ∨ ∃ vc vs vo g,S.ob it=some (.row ([] ++ [vc,vs,vo])) ∧ vc=.ms g 0 (cellsF (tos T)).length 2 ∧ v3=.ms g ((q.2.at_.toNat + 1) * 2) q.2.fs.length 2 ∧ S.mu g=some (flat (wcs (cellsF (tos T))))) :
 ∃ x S3,wopOf (.cpy 2) S [v3,v2]=some (x,S3) ∧ CS s0 h ih it ib hb gm (putT T i q fs) S3 ∧ S3.mn=S.mn ∧ ∀ g,¬ own [it] S g → S3.mu g=S.mu g ∧ ¬ own [it] S3 g:=by
 have hsrc:=h2.rl.src
 rw [lw] at hsrc
 rcases h3 with ⟨h0,rfl⟩ | ⟨vc,vs,vo,g,o1,rfl,rfl,o4⟩
 ·have hf:fs=[]:=List.length_eq_zero_iff.1 (by rw [hl,h0];rfl)
  subst hf
  refine ⟨_,S,by simp only [wopOf,cpyOf,if_true,hsrc,Obs];rfl,?_,rfl,fun g hg=>⟨rfl,hg⟩⟩
  have e:putT T i q []=T:=by
   obtain ⟨l1,l2,e1,e2⟩:=set_split hq (q.1,⟨q.2.at_,q.2.tag,[]⟩)
   rw [putT,e2]
   conv=>rhs;rw [e1]
   rw [← h0]
  rw [e]
  exact k
 obtain ⟨l1,l2,e1,e2⟩:=set_split (tos_get hq) ⟨q.2.at_,q.2.tag,fs⟩
 have hat:q.2.at_=(cellsF l1).length:=by
  have ha:=k.ti.ad
  rw [e1] at ha
  have:=(addrs_app.1 ha).2.1
  omega
 have c1:cellsF (tos T)=(cellsF l1 ++ [⟨false,q.2.tag⟩]) ++ (q.2.fs ++ cellsF l2):=by rw [e1];simp [cellsF,oC]
 have c2:cellsF (tos (putT T i q fs))=(cellsF l1 ++ [⟨false,q.2.tag⟩]) ++ (fs ++ cellsF l2):=by rw [tos_set,e2];simp [cellsF,oC]
 have c3:sizesF (tos (putT T i q fs))=sizesF (tos T):=by rw [tos_set,e2,e1];simp [sizesF,oS,hl]
 have c4:orderF (tos (putT T i q fs))=orderF (tos T):=by rw [tos_set,e2,e1];simp [orderF]
 have hw:wr (flat (wcs (cellsF (tos T)))) ((q.2.at_.toNat + 1) * 2) (flat (wcs fs))=flat (wcs (cellsF (tos (putT T i q fs)))):=by
  rw [c1,c2]
  have e:(q.2.at_.toNat + 1) * 2=(cellsF l1 ++ [(⟨false,q.2.tag⟩:Word)]).length * 2:=by rw [hat];simp
  rw [e]
  exact wr_mid hl
 have hn:(cellsF (tos (putT T i q fs))).length=(cellsF (tos T)).length:=by rw [c1,c2];simp [hl]
 refine ⟨.lit (.int .i64 (min fs.length q.2.fs.length:Nat)),{ S with mu:=upd S.mu g (some (flat (wcs (cellsF (tos (putT T i q fs)))))) },?_,?_,rfl,fun g' hg'=>⟨upd_ne _ _ fun e=>hg' (e ▸ (own_row o1).2 (by simp [tks,tk])),hg'⟩⟩
 ·simp only [wopOf,cpyOf,if_true,hsrc,Obs,o4]
  rw [← hl,Nat.min_self,List.take_of_length_le (by rw [flat_len (wcs_sz _),lw];exact Nat.le_refl _),if_pos,hw]
  rw [flat_len (wcs_sz _),lw,c1,hat]
  simp
  omega
 obtain ⟨m,m1,m2,m3⟩:=k.mvd
 have hgo:own [it] S g:=(own_row o1).2 (by simp [tks,tk])
 have hge:s0.mn ≤ g:=k.fown g hgo
 refine ⟨⟨⟨k.kl.e.nx,k.kl.e.ob,k.kl.e.gn,k.kl.e.gl,k.kl.e.Q⟩,k.kl.mn,fun g' hg' hx=>(upd_ne _ _ (by omega)).trans (k.kl.mu g' hg' hx)⟩,?_,k.fit,k.fib,k.fhb,k.ob,k.oh,k.fgm,k.gto,k.fown,⟨m,(upd_ne _ _ fun e=>k.gto (by rw [e];exact hgo)).trans m1,m2,fun x hx=>by rw [mvV_put hq];exact m3 x hx⟩,k.ti.put hq hl⟩
 obtain ⟨vc',vs',vo',g1,g2,g3,g4,g5,g6⟩:=k.to
 rw [o1] at g1
 simp only [Oie,AObj.row.injEq,List.nil_append,List.cons.injEq,and_true] at g1
 obtain ⟨rfl,rfl,rfl⟩:=g1
 have hd:∀ g',g' ∈ tk vs ∨ g' ∈ tk vo → g' ≠ g:=by
  intro g' hg' e
  subst e
  have:=(List.nodup_cons.1 (by simpa [tks,tk] using g6:(g' :: (tk vs ++ tk vo)).Nodup)).1
  simp only [List.mem_append] at this
  exact this hg'
 refine ⟨_,vs,vo,o1,g2,⟨?_,.inr ⟨g,by rw [lw,hn],upd_same _ _ _,g3.wlt (by simp [tk])⟩⟩,?_,?_,g6⟩
 ·rw [flat_len (wcs_sz _)]
 ·rw [c3]
  exact g4.mono (fun g' hg'=>upd_ne _ _ (hd g' (.inl hg'))) (Nat.le_refl _)
 rw [c4]
 exact g5.mono (fun g' hg'=>upd_ne _ _ (hd g' (.inr hg'))) (Nat.le_refl _)
theorem fmp {v:AV} {fs:List Word} {S:Sg} {i x n:Nat} {pre:List AV} {cs:List AV} (f1:RL 2 v (wcs fs) S) (f3:fs=[] ∧ v=.slice .none 2 [] ∨ ∃ vc vs vo g,S.ob i=some (.row (pre ++ [vc,vs,vo])) ∧ vc=.ms g 0 n 2 ∧ v=.ms g x fs.length 2 ∧ S.mu g=some cs):MP v.er fs S:=by
 rcases f3 with ⟨rfl,rfl⟩ | ⟨vc,vs,vo,g,_,_,rfl,h⟩
 ·exact .inl ⟨rfl,_,rfl⟩
 rcases f1.2 with ⟨o,e⟩ | ⟨g',off,cs',e,h1,h2,h3,h4⟩
 ·cases e
 simp only [AV.ms.injEq] at e
 obtain ⟨rfl,rfl,_,_⟩:=e
 rw [lw] at h3 h4
 exact .inr ⟨g,x,cs',rfl,h1,h2,h3,h4⟩
theorem scan_end {obs:List HOb} {k i:Nat} {T:TL} (h:T.length ≤ i):scanT obs k i T=T:=by
 cases k with
 | zero=>rfl
 | succ k=>simp only [scanT,List.getElem?_eq_none h]
theorem coll_l (s0:Sg) (h:RH) (ih it ib hb gm:Nat) (hi:HInv h) (hs0:SP ih [I h.size] h.obs s0) (go n9:Nat) (R:List Word) (k i:Nat) (T:TL) (hk:h.obs.length < k + i) {n:Nat} {v:Nat → Bool} {D:List (Nat × List AV)} {S:Sg} {Q:Ex → Fr → Prop} (hC:CS s0 h ih it ib hb gm T S) (hS:SI h.obs i T) (ho:(S.mu go=some (flat (wcs R)) ∧ go < S.mn ∧ s0.mn ≤ go ∧ go ≠ gm ∧ ¬ own [it] S go))
 (hX:∀ j S',CS s0 h ih it ib hb gm (scanT h.obs k i T) S' → (S'.mu go=some (flat (wcs R)) ∧ go < S'.mn ∧ s0.mn ≤ go ∧ go ≠ gm ∧ ¬ own [it] S' go) → Q (.exit 0) ⟨upd (upd (upd (upd (upd (upd ((fun _=>none)) 41 (some (.val (B false)))) 10 (some (.val (I j)))) 9 (some (.val (.ms go 0 n9 2)))) 8 (some (.val (.fn N67_ [] [.ptr ib 0,.ptr it 0,.ptr hb 0])))) 6 (some (.val (.ptr it 0)))) 2 (some (.val (.ptr hb 0))),(fun _=>none),n,v,D,S'⟩):EX (callL p) (.loop F41_l1) ⟨upd (upd (upd (upd (upd ((fun _=>none)) 10 (some (.val (I i)))) 9 (some (.val (.ms go 0 n9 2)))) 8 (some (.val (.fn N67_ [] [.ptr ib 0,.ptr it 0,.ptr hb 0])))) 6 (some (.val (.ptr it 0)))) 2 (some (.val (.ptr hb 0))),(fun _=>none),n,v,D,S⟩ Q:=by
 refine eloop (eseq (er (pq2 J ?_)))
 obtain ⟨vc,vs,vo,g1,g2,g3,g4,g5,g6⟩:=hC.to
 refine hldo J g1 J ?_
 refine hlenA J g5.len ?_
 rw [show ((orderF (tos T)).map I).length=T.length from by simp [orderF,tos]]
 refine qp J (qb ?_)
 rintro (_ | _) h1
 ·refine qn (kq6 J) kn (ecF J (eexit (sqx ?_)))
  exact hX _ _ (by rw [scan_end (by simp at h1;omega)];exact hC) ho
 refine qn (kq6 J) kn (ecT J (eskip (sqn (eseq (eblock (er (qp J ?_)))))))
 have hlt:i < T.length:=by simpa using h1
 have hin:=hi.n
 obtain ⟨q,hq⟩:=get_of_lt hlt
 have hTl:=hC.ti.len
 obtain ⟨k,rfl⟩:∃ k',k=k' + 1:=⟨k - 1,by omega⟩
 obtain ⟨s1,s2,s3,s4⟩:=hS.step hi.v hq
 have hob:=obAt_get hC.ti.ad (tos_get hq)
 have hle:=hC.ti.cells hi
 have hfs:=hC.ti.fs hi.f q.2 (Lmg (tos_get hq))
 refine hldo J g1 J ?_
 refine qp J ?_
 obtain ⟨p1,p2,p3⟩:=(g5.rl (ints_sz _)).at_ (j:=(i:Int)) (y:=I q.2.at_) (by omega) (by simp [orderF,tos_get hq])
 refine hiaR rfl rfl p2 (hldR (y:=I q.2.at_) rfl p3 rfl (hcall rfl rfl rfl (hfields_c _ it [] (tos T) q.2.at_ q.2 hC.to hC.ti.ad hob (by omega)) ?_))
 rintro _ _ ⟨v1,rfl,rfl,f1,f2,f3⟩
 have hmp:=fmp f1 f3
 refine hcall J J J (clone_w hmp (by omega)) ?_
 rintro _ S1 ⟨v2,rfl,e1,e2,e3⟩
 have C1:=hC.mx e2
 have hg1:∀ g ∈ tk v2.er,s0.mn ≤ g ∧ g ≠ gm ∧ ¬ own [it] S1 g:=fun g hg=>by
  rw [tk_er] at hg
  have a:=e3 g hg
  exact ⟨Nat.le_trans hC.kl.mn a,fun e=>by have:=hC.fgm.2;omega,fun e=>by have:=own_lt hC.to rfl ((own_ob e2.ob).1 e);omega⟩
 refine qp J (qn (kq6 J) kn (er (pq2 J (hcall J J J (move_c s0 h ih it ib hb gm hi hs0 _ v2.er q.2.fs T (by omega) C1 e1.lm.ere hg1 s3) ?_))))
 rintro _ S2 ⟨rfl,C2,l2,F2,_⟩
 obtain ⟨wc,ws,wo,x1,x2,x3,x4,x5,x6⟩:=C2.to
 have kl:=Nat.lt_of_lt_of_le ho.2.1 e2.mn
 obtain ⟨k1,hg2⟩:=F2.mu go kl (by rw [tk_er];simp only [List.mem_cons,not_or];exact ⟨ho.2.2.2.1,fun hx=>by have:=e3 go hx;have:=ho.2.1;omega⟩) (fun hx=>ho.2.2.2.2 ((own_ob e2.ob).1 hx))
 have k1:=k1.trans ((e2.mu go ho.2.1 (by simp)).trans ho.1)
 have hob2:=obAt_get C2.ti.ad (tos_get s2)
 have hle2:=C2.ti.cells hi
 refine qn (kq6 J) kn (ereg (qp J (hldo J x1 J ?_)))
 refine qp J ?_
 obtain ⟨p4,p5,p6⟩:=(x5.rl (ints_sz _)).at_ (j:=(i:Int)) (y:=I q.2.at_) (by omega) (by simp [orderF,tos_get s2])
 refine hiaR rfl rfl p5 (hldR (y:=I q.2.at_) rfl p6 rfl (hcall rfl rfl rfl (hfields_c _ it [] (tos _) q.2.at_ q.2 C2.to C2.ti.ad hob2 (by omega)) ?_))
 rintro _ _ ⟨v3,rfl,rfl,y1,y2,y3⟩
 refine qp J ?_
 obtain ⟨z0,S3,z1,C3,z3,z4⟩:=cpy_ok C2 s2 (mvW_len ..) l2.of_er y3
 refine hwop J z1 (qk (kq5 J) kn (bqn (sqn (ereg (qp J (hadd J J (i64w (by omega)) (qp J (qk (kq5 J) kn ?_))))))))
 exact coll_l s0 h ih it ib hb gm hi hs0 go n9 R k (i + 1) _ (by omega) C3 s1 ⟨(z4 go hg2).1.trans k1,by rw [z3];exact Nat.lt_of_lt_of_le kl F2.mn,ho.2.2.1,ho.2.2.2.1,(z4 go hg2).2⟩ (fun j S' c d=>hX j S' (by simp only [scanT,hq];exact c) d)
termination_by k
decreasing_by all_goals omega
theorem mks_eq {sz by_ n:Nat} {z:List AV} {S:Sg} (h:n * by_ ≤ 2 ^ 47):wopOf (.mks sz by_ z) S [I n,I n]=some (.ms S.mn 0 n sz,{ S with mu:=upd S.mu S.mn (some (zeros z n)),mn:=S.mn + 1 }):=by
 simp only [wopOf,asN,I,Obs,mksOf]
 rw [if_pos ⟨by omega,Int.le_refl _,by simpa using h⟩]
 simp
theorem zeros_I (n:Nat):zeros [I 0] n=(List.replicate n (0:Int)).map I:=by
 unfold zeros
 induction n with
 | zero=>rfl
 | succ n ih=>rw [List.replicate_succ,List.flatten_cons,ih,List.replicate_succ];rfl
theorem zeros_len (z:List AV) (n:Nat):(zeros z n).length=n * z.length:=by
 unfold zeros
 induction n with
 | zero=>simp
 | succ n ih=>rw [List.replicate_succ,List.flatten_cons,List.length_append,ih,Nat.add_mul,Nat.one_mul,Nat.add_comm]
theorem cs_init {s S2:Sg} {h:RH} {ih:Nat} (ha:addrs 0 h.obs) (hi:ih < s.nx) (K:KL [] (s.new (.row [.ptr ih 0])) S2):CS s h ih S2.nx (S2.nx + 1) s.nx S2.mn []
 (Sg.set (Sg.new { (S2.new (.row [.slice .full 2 [],.slice .full 1 [],.slice .full 1 []])) with mu:=upd S2.mu S2.mn (some (zeros [I 0] (cellsF h.obs).length)),mn:=S2.mn + 1 } (.row [.slice .full 1 []])) (S2.nx + 1) (.row [.ms S2.mn 0 (cellsF h.obs).length 1])):=by
 have k0:KL [] s S2:=(KL.new _ _).trans0 K
 have hlt:s.nx < S2.nx:=Nat.lt_of_lt_of_le (Nat.lt_succ_self _) K.e.nx
 have hob:∀ i,i ≤ S2.nx → i ≠ S2.nx + 1:=fun i h e=>by omega
 have o1:∀ i,i < S2.nx → (Sg.set (Sg.new { (S2.new (.row [.slice .full 2 [],.slice .full 1 [],.slice .full 1 []])) with mu:=upd S2.mu S2.mn (some (zeros [I 0] (cellsF h.obs).length)),mn:=S2.mn + 1 } (.row [.slice .full 1 []])) (S2.nx + 1) (.row [.ms S2.mn 0 (cellsF h.obs).length 1])).ob i=S2.ob i:=fun i hi=>by
  show upd (upd (upd S2.ob S2.nx _) (S2.nx + 1) _) (S2.nx + 1) _ i=_
  rw [upd_ne _ _ (by omega),upd_ne _ _ (by omega),upd_ne _ _ (by omega)]
 have o2:(Sg.set (Sg.new { (S2.new (.row [.slice .full 2 [],.slice .full 1 [],.slice .full 1 []])) with mu:=upd S2.mu S2.mn (some (zeros [I 0] (cellsF h.obs).length)),mn:=S2.mn + 1 } (.row [.slice .full 1 []])) (S2.nx + 1) (.row [.ms S2.mn 0 (cellsF h.obs).length 1])).ob S2.nx=some (.row [.slice .full 2 [],.slice .full 1 [],.slice .full 1 []]):=by
  show upd (upd (upd S2.ob S2.nx _) (S2.nx + 1) _) (S2.nx + 1) _ S2.nx=_
  rw [upd_ne _ _ (by omega),upd_ne _ _ (by omega),upd_same]
 have hno:∀ g,¬ own [S2.nx] _ g:=fun g ho=>by
  have:=(own_row o2).1 ho
  simp [tks,tk] at this
 have hw:∀ sz S,WL sz (.slice .full sz []) 0 [] S:=fun sz S=>⟨by simp,.inl ⟨rfl,rfl⟩⟩
 refine ⟨⟨⟨by show s.nx ≤ S2.nx + 1 + 1;omega,fun i hi=>(o1 i (by omega)).trans (k0.e.ob i hi),k0.e.gn,k0.e.gl,k0.e.Q⟩,Nat.le_trans k0.mn (Nat.le_succ _),fun g hg hx=>(upd_ne _ _ (by have:=k0.mn;omega)).trans (k0.mu g hg hx)⟩,
  ⟨_,_,_,o2,by show S2.nx < S2.nx + 1 + 1;omega,hw _ _,hw _ _,hw _ _,List.nodup_nil⟩,by omega,⟨by omega,by show _ < S2.nx + 1 + 1;omega,by omega⟩,⟨Nat.le_refl _,by show _ < S2.nx + 1 + 1;omega,by omega⟩,upd_same _ _ _,(o1 _ hlt).trans ((K.e.ob s.nx (Nat.lt_succ_self _)).trans (upd_same _ _ _)),
  ⟨k0.mn,Nat.lt_succ_self _⟩,hno _,fun g hg=>absurd hg (hno g),⟨List.replicate (cellsF h.obs).length 0,(upd_same _ _ _).trans (by rw [zeros_I]),by simp,fun x hx=>?_⟩,⟨trivial,by simp,by simp⟩⟩
 obtain ⟨o,ho⟩:=Option.isSome_iff_exists.1 hx
 obtain ⟨x0,_,_,x1,_⟩:=obAt_cells ha ho
 rw [List.getElem?_replicate,if_pos (by omega)]
 rfl
theorem cpy_all {S:Sg} {g n:Nat} {u:AV} {ws:List Word} {z:List AV} (hu:RL 2 u (wcs ws) S) (hg:S.mu g=some z) (hz:z.length=ws.length * 2) (hn:n=ws.length):wopOf (.cpy 2) S [.ms g 0 n 2,u]=some (.lit (.int .i64 ws.length),{ S with mu:=upd S.mu g (some (flat (wcs ws))) }):=by
 subst hn
 simp only [wopOf,cpyOf,if_true,hu.src,Obs,hg,lw,Nat.min_self,Nat.zero_add]
 rw [if_pos (by omega),List.take_of_length_le (by rw [flat_len (wcs_sz _),lw];exact Nat.le_refl _)]
 rw [wr,List.take_zero,List.nil_append,List.drop_eq_nil_of_le (by rw [flat_len (wcs_sz _),lw];omega),List.append_nil]
theorem ms_lm {g n:Nat} {ws:List Word} {S:Sg} (h:LM (.ms g 0 n 2) ws S):ws.length=n ∧ S.mu g=some (flat (wcs ws)) ∧ g < S.mn:=by
 rcases h with ⟨_,o,e⟩ | ⟨g',e,h⟩
 ·cases e
 simp only [AV.ms.injEq] at e
 obtain ⟨rfl,_,rfl,_⟩:=e
 exact ⟨rfl,h⟩
theorem collect_c (s:Sg) (ih:Nat) (h:RH) (hP:HS ih h s) (u:AV) (ws:List Word) (hl:ws.length ≤ 2 ^ 30) (hu:RL 2 u (wcs ws) s) (hv:validW h.obs ws=true):HC p N41_ [.ptr ih 0,u] s (fun r s'=>∃ v,r=[v,I 0] ∧ HS ih (collectP h ws).1 s' ∧ WE 2 v (wcs (collectP h ws).2) s' ∧ KX [ih] s s' ∧ ∀ g ∈ tk v,s.mn ≤ g ∧ ¬ own [ih] s' g):=by
 have hsz:=hP.2.sz
 have hle:=hP.2.le
 have hlt:=hP.1.lt
 refine hcf J f41_ J ?_
 simp only [chainOf]
 refine er (hboxo J (lq1 J) (pq2 J (qn (kq2 J) kn (eseq (er (hldo J (upd_same _ _ _) J ?_))))))
 refine hpeq J J J J J (qb ?_)
 rintro (_ | _) h1
 ·refine qn (kq3 J) kn (ecF J (eskip (sqn (eseq (er (hldo J (upd_same _ _ _) J ?_))))))
  refine pq3 J (hcall J J J (hvalid_c _ ih [I h.size] h.obs hP.2.ad (hP.1.kl (KL.new _ _) (by simp)) u.er ws (by omega) (hu.ere.kl (KL.new _ _))) ?_)
  rintro _ S2 ⟨rfl,K2⟩
  have ob2:S2.ob s.nx=some (.row [.ptr ih 0]):=(K2.e.ob s.nx (Nat.lt_succ_self _)).trans (upd_same _ _ _)
  have n2:s.nx < S2.nx:=Nat.lt_of_lt_of_le (Nat.lt_succ_self _) K2.e.nx
  have C6:=cs_init hP.2.ad hlt K2
  have k2:KL [] s S2:=(KL.new _ _).trans0 K2
  refine qb ?_
  rintro (_ | _) h2
  ·simp [hv] at h2
  refine qp J (qn (kq3 J) kn (ecF J (eskip (sqn (er (hall (qn (kq3 J) kn (er (hldo J ((upd_ne _ _ (by omega)).trans ob2) J ?_)))))))))
  refine pq3 J ?_
  obtain ⟨vc,vs,vo,g1,g2,g3,g4,g5,g6⟩:=hP.1.kl (k2.trans0 (KL.new S2 (.row [.slice .full 2 [],.slice .full 1 [],.slice .full 1 []]))) (by simp)
  refine hldo J g1 J ?_
  refine hlenA J g3.len ?_
  rw [lw]
  refine hwop rfl (mks_eq (n:=(cellsF h.obs).length) (by omega)) (hall (hsto rfl rfl (upd_same _ _ _) rfl (Nlb rfl) (by simp) rfl (qk (kc rfl (kc rfl (kc rfl (kc rfl kn)))) kn (sqn (eseq (ereg (qp rfl (qp rfl (qk (kc rfl (kc rfl (kc rfl (kc rfl kn)))) kn (sqn (eseq (ereg (qp rfl (hlenA rfl hu.len ?_))))))))))))))
  rw [lw]
  refine hwop rfl (mks_eq (n:=ws.length) (by omega)) (qp rfl (qk (kc rfl (kc rfl (kc rfl (kc rfl (kc rfl kn))))) kn (sqn (eseq (ereg (qp rfl (qp rfl ?_)))))))
  refine hwop rfl (cpy_all (hu.kl ?_) (upd_same _ _ _) (by rw [zeros_len];simp) rfl) ?_
  ·have K6:=C6.kl
   exact ⟨⟨K6.e.nx,K6.e.ob,K6.e.gn,K6.e.gl,K6.e.Q⟩,Nat.le_trans K6.mn (Nat.le_succ _),fun g hg hx=>(upd_ne _ _ (by have:=k2.mn;show g ≠ S2.mn + 1;omega)).trans (K6.mu g hg hx)⟩
  have C7:=CS.mx C6 (S':={ Sg.set (Sg.new { (S2.new (.row [.slice .full 2 [],.slice .full 1 [],.slice .full 1 []])) with mu:=upd S2.mu S2.mn (some (zeros [I 0] (cellsF h.obs).length)),mn:=S2.mn + 1 } (.row [.slice .full 1 []])) (S2.nx + 1) (.row [.ms S2.mn 0 (cellsF h.obs).length 1]) with mu:=upd (upd S2.mu S2.mn (some (zeros [I 0] (cellsF h.obs).length))) (S2.mn + 1) (some (zeros [B false,I 0] ws.length)),mn:=S2.mn + 2 }) ⟨rfl,rfl,rfl,rfl,rfl,Nat.le_succ _,fun g hg _=>upd_ne _ _ (by have:g < S2.mn + 1:=hg;omega)⟩
  have hgo:¬ own [S2.nx] _ (S2.mn + 1):=fun ho=>by have:=own_lt C6.to rfl ho;exact absurd this (Nat.lt_irrefl _)
  have C8:=C7.mset (gl:=S2.mn + 1) (x:=some (flat (wcs ws))) (Nat.le_trans k2.mn (Nat.le_succ _)) (by omega) hgo
  refine qn (kq4 rfl) kn (er (pq2 rfl (hcall rfl rfl rfl (move_c s h ih S2.nx (S2.nx + 1) s.nx S2.mn hP.2 hP.1 _ (.ms (S2.mn + 1) 0 ws.length 2) ws [] hl C8 (.inr ⟨S2.mn + 1,rfl,upd_same _ _ _,Nat.lt_succ_self _⟩) (fun g hg=>by rw [List.mem_singleton.1 hg];exact ⟨Nat.le_trans k2.mn (Nat.le_succ _),by omega,hgo⟩) hv) ?_)))
  rintro _ S9 ⟨rfl,C9,l9,F9,r4⟩
  obtain ⟨r1,r2,r3⟩:=ms_lm l9
  have r4:=r4 (S2.mn + 1) (by simp [tk])
  refine qn (kq4 J) kn (eseq (er (qp J (qn (kq5 J) kn (eblock (coll_l s h ih S2.nx (S2.nx + 1) s.nx S2.mn hP.2 hP.1 (S2.mn + 1) ws.length (mvW h.obs [] ws).1 (h.obs.length + 1) 0 _ (by omega) C9 (SI.root hP.2 ws) ⟨r2,r3,Nat.le_trans k2.mn (Nat.le_succ _),by omega,r4⟩ ?_))))))
  intro j S' C10 ho
  refine bqx (sqn (er (hldo J C10.oh J ?_)))
  obtain ⟨wc,ws1,wo,x1,x2,x3,x4,x5,x6⟩:=C10.to
  obtain ⟨_,_,_,y1,y2,_⟩:=hP.1.kl C10.kl (by simp)
  refine hldo (y:=.agg [wc,ws1,wo]) rfl x1 rfl ?_
  refine qp rfl (qp rfl (hsto (cs':=[I h.size,wc,ws1,wo]) rfl rfl y1 rfl (Nlb rfl) (by simp) (by simp [wr,AV.erT,AV.erTs,AV.cells,x3.erT,x4.erT,x5.erT]) (qk (kc rfl kn) kn (sqn (eseq (ereg (qp rfl (qp rfl (qp rfl (qk (kc rfl (kc rfl kn)) kn (sqn (eret (fqr rfl ?_)))))))))))))
  have e1:own [ih] (S'.set ih (.row [I h.size,wc,ws1,wo]))=own [S2.nx] S':=by
   funext g
   refine propext ?_
   rw [own_row (upd_same _ _ _),own_row x1]
   exact Iff.rfl
  have cc:=(collect_inv hP.2 hv)
  refine ⟨.ms (S2.mn + 1) 0 ws.length 2,rfl,⟨⟨wc,ws1,wo,upd_same _ _ _,y2,x3.mono (fun _ _=>rfl) (Nat.le_refl _),x4.mono (fun _ _=>rfl) (Nat.le_refl _),x5.mono (fun _ _=>rfl) (Nat.le_refl _),x6⟩,cc.1⟩,⟨by rw [flat_len (wcs_sz _)],.inr ⟨S2.mn + 1,by rw [lw,cc.2.2.1],ho.1,ho.2.1⟩⟩,
   ⟨C10.kl.e.nx,C10.kl.mn,C10.kl.e.gn,C10.kl.e.gl,C10.kl.e.Q,fun i hi hx=>(upd_ne _ _ (by simpa using hx)).trans (C10.kl.e.ob i hi),fun g hg _=>C10.kl.mu g hg (by simp),fun g hg=>.inr (C10.fown g (by rw [← e1];exact hg))⟩,fun g hg=>?_⟩
  rw [List.mem_singleton.1 hg,e1]
  exact ⟨Nat.le_trans k2.mn (Nat.le_succ _),ho.2.2.2.2⟩
 simp at h1
end Go.Sim.W
namespace Go.Sim.W
open Go Go.Sim
structure VM where
 code:Code
 h:RH
 regs:List Word
 at_:Int
 period:Int
 news:Int
 fuel:Int
 fin:Int
 val:Int
 outs:List Int
 steps:Int
 over:Bool
def VM.row (m:VM) (ih:Nat) (vr vo:AV):List AV :=
 [I m.code.params,SL 7 (m.code.ins.map Instr.enc),ints m.code.entries,.ptr ih 0,vr,I m.at_,I m.period,I m.news,I m.fuel,I m.fin,I m.val,vo,I m.steps,B m.over]
structure MS (im ih:Nat) (m:VM) (S:Sg):Prop where
 ne:im ≠ ih
 lt:im < S.nx
 hp:HS ih m.h S
 row:∃ vr vo,S.ob im=some (.row (m.row ih vr vo)) ∧ WE 2 vr (wcs m.regs) S ∧ WE 1 vo (m.outs.map I) S ∧ (tk vr ++ tk vo).Nodup ∧ ∀ g ∈ tk vr ++ tk vo,¬ own [ih] S g
def getR (l:List Word) (r:Int):Word:=(l[r.toNat]?).getD w0
def padR (l:List Word) (n:Nat):List Word:=l ++ List.replicate (n - l.length) w0
def setR (l:List Word) (r:Int) (w:Word):List Word:=(padR l (r.toNat + 1)).set r.toNat w
def listR (l:List Word) (rs:List Int):List Word:=rs.map (getR l)
def tagR (m:VM) (r:Int):Int:=if (getR m.regs r).ref=true then (match obAt m.h.obs (getR m.regs r).n with
 | some o=>o.tag
 | none=>0) else -1
def VM.gc (m:VM):VM:={ m with h:=(collectP m.h m.regs).1,regs:=(collectP m.h m.regs).2 }
theorem row_tks (m:VM) (ih:Nat) (vr vo:AV):tks (m.row ih vr vo)=tk vr ++ tk vo:=by simp [VM.row,tks,tk,ints,SL,I,B]
theorem own_im {im ih:Nat} {m:VM} {S:Sg} {vr vo:AV} {g:Nat} (h:S.ob im=some (.row (m.row ih vr vo))):own [im] S g ↔ g ∈ tk vr ++ tk vo:=by rw [own_row h,row_tks]
theorem own_two {a b:Nat} {S:Sg} {g:Nat}:own [a,b] S g ↔ own [a] S g ∨ own [b] S g:=by
 constructor
 ·rintro ⟨i,hi,row,h1,h2⟩
  simp only [List.mem_cons,List.not_mem_nil,or_false] at hi
  rcases hi with rfl | rfl
  ·exact .inl ⟨i,by simp,row,h1,h2⟩
  exact .inr ⟨i,by simp,row,h1,h2⟩
 rintro (⟨i,hi,r⟩ | ⟨i,hi,r⟩) <;> exact ⟨i,by simp at hi ⊢;simp [hi],r⟩
theorem MS.kl {im ih:Nat} {m:VM} {S S':Sg} (h:MS im ih m S) (k:KL [] S S'):MS im ih m S':=by
 obtain ⟨vr,vo,h1,h2,h3,h4,h5⟩:=h.row
 have hl:=h.hp.1.lt
 exact ⟨h.ne,Nat.lt_of_lt_of_le h.lt k.e.nx,⟨h.hp.1.kl k (by simp),h.hp.2⟩,vr,vo,(k.e.ob im h.lt).trans h1,h2.mono (fun g hg=>k.mu g (h2.lt g hg) (by simp)) k.mn,h3.mono (fun g hg=>k.mu g (h3.lt g hg) (by simp)) k.mn,h4,fun g hg ho=>h5 g hg (k.own hl ho)⟩
theorem MS.lth {im ih:Nat} {m:VM} {S:Sg} (h:MS im ih m S):∀ i ∈ [im,ih],i < S.nx:=by
 intro i hi
 simp only [List.mem_cons,List.not_mem_nil,or_false] at hi
 rcases hi with rfl | rfl
 ·exact h.lt
 exact h.hp.1.lt
theorem own_set {a b:Nat} {S:Sg} {o:AObj} {g:Nat} (h:b ≠ a):own [a] (S.set b o) g ↔ own [a] S g:=by
 have e:(S.set b o).ob a=S.ob a:=upd_ne _ _ (Ne.symm h)
 constructor
 ·rintro ⟨i,hi,row,h1,h2⟩
  obtain rfl:=List.mem_singleton.1 hi
  exact ⟨i,by simp,row,e.symm.trans h1,h2⟩
 rintro ⟨i,hi,row,h1,h2⟩
 obtain rfl:=List.mem_singleton.1 hi
 exact ⟨i,by simp,row,e.trans h1,h2⟩
theorem MS.set {im ih:Nat} {m:VM} (m':VM) {S:Sg} {vr vo:AV} (h:MS im ih m S) (h1:S.ob im=some (.row (m.row ih vr vo))) (e1:m'.regs=m.regs) (e2:m'.outs=m.outs) (e3:m'.h=m.h) :
 MS im ih m' (S.set im (.row (m'.row ih vr vo))) ∧ KX [im,ih] S (S.set im (.row (m'.row ih vr vo))):=by
 obtain ⟨vr',vo',h1',h2,h3,h4,h5⟩:=h.row
 have hrr:vr'=vr ∧ vo'=vo:=by
  rw [h1] at h1'
  simp only [VM.row,Oie,AObj.row.injEq,List.cons.injEq] at h1'
  exact ⟨h1'.2.2.2.2.1.symm,h1'.2.2.2.2.2.2.2.2.2.2.2.1.symm⟩
 obtain ⟨rfl,rfl⟩:=hrr
 have hne:=h.ne
 have oh:∀ g,own [ih] (S.set im (.row (m'.row ih vr' vo'))) g ↔ own [ih] S g:=fun g=>own_set hne
 refine ⟨⟨hne,h.lt,⟨?_,by rw [e3];exact h.hp.2⟩,vr',vo',upd_same _ _ _,by rw [e1];exact h2.mono (fun _ _=>rfl) (Nat.le_refl _),by rw [e2];exact h3.mono (fun _ _=>rfl) (Nat.le_refl _),h4,fun g hg ho=>h5 g hg ((oh g).1 ho)⟩,
  ⟨Nat.le_refl _,Nat.le_refl _,Nat.le_refl _,fun _ _=>rfl,rfl,fun i hi hx=>upd_ne _ _ (by simp at hx;exact hx.1),fun _ _ _=>rfl,fun g hg=>?_⟩⟩
 ·obtain ⟨vc,vs,vo2,g1,g2,g3,g4,g5,g6⟩:=h.hp.1
  rw [e3]
  exact ⟨vc,vs,vo2,(upd_ne _ _ (Ne.symm hne)).trans g1,g2,g3.mono (fun _ _=>rfl) (Nat.le_refl _),g4.mono (fun _ _=>rfl) (Nat.le_refl _),g5.mono (fun _ _=>rfl) (Nat.le_refl _),g6⟩
 rcases own_two.1 hg with hg | hg
 ·exact .inl (own_two.2 (.inl ((own_im h1).2 ((own_im (upd_same _ _ _)).1 hg))))
 exact .inl (own_two.2 (.inr ((oh g).1 hg)))
theorem MS.setR {im ih:Nat} {m:VM} {S S1:Sg} {vr vo v':AV} {l:List Word} (h:MS im ih m S) (h1:S.ob im=some (.row (m.row ih vr vo)))
 (w2:WE 2 v' (wcs l) S1) (w3:MX (tk vr) S S1) (w4:∀ g ∈ tk v',g ∈ tk vr ∨ S.mn ≤ g) :
 MS im ih { m with regs:=l } (S1.set im (.row (VM.row { m with regs:=l } ih v' vo))) ∧ KX [im,ih] S (S1.set im (.row (VM.row { m with regs:=l } ih v' vo))):=by
 obtain ⟨vr',vo',h1',h2,h3,h4,h5⟩:=h.row
 have hrr:vr'=vr ∧ vo'=vo:=by
  rw [h1] at h1'
  simp only [VM.row,Oie,AObj.row.injEq,List.cons.injEq] at h1'
  exact ⟨h1'.2.2.2.2.1.symm,h1'.2.2.2.2.2.2.2.2.2.2.2.1.symm⟩
 obtain ⟨rfl,rfl⟩:=hrr
 have hne:=h.ne
 obtain ⟨n1,n2,n3⟩:=List.nodup_append.1 h4
 have hno:∀ g ∈ tk vr',¬ own [ih] S g:=fun g hg=>h5 g (by simp [hg])
 have oh:∀ g,own [ih] (S1.set im (.row (VM.row { m with regs:=l } ih v' vo'))) g ↔ own [ih] S g:=fun g=>(own_set hne).trans (own_ob w3.ob)
 have hlt:∀ g,own [ih] S g → g < S.mn:=fun g ho=>own_lt h.hp.1 rfl ho
 have k3:=h3.mx w3 fun g hg hx=>n3 g hx g hg rfl
 refine ⟨⟨hne,by show im < S1.nx;rw [w3.nx];exact h.lt,⟨?_,h.hp.2⟩,v',vo',upd_same _ _ _,w2.mono (fun _ _=>rfl) (Nat.le_refl _),k3.mono (fun _ _=>rfl) (Nat.le_refl _),?_,fun g hg ho=>?_⟩,?_⟩
 ·obtain ⟨vc,vs,vo2,g1,g2,g3,g4,g5,g6⟩:=h.hp.1
  have hx:∀ g ∈ tks [vc,vs,vo2],g ∉ tk vr':=fun g hg hx=>hno g hx ((own_row g1).2 (by rw [tks_app];simp [hg]))
  exact ⟨vc,vs,vo2,(upd_ne _ _ (Ne.symm hne)).trans ((congrFun w3.ob ih).trans g1),by show ih < S1.nx;rw [w3.nx];exact g2,(g3.mx w3 fun g hg=>hx g (by simp [tks,hg])).mono (fun _ _=>rfl) (Nat.le_refl _),(g4.mx w3 fun g hg=>hx g (by simp [tks,hg])).mono (fun _ _=>rfl) (Nat.le_refl _),(g5.mx w3 fun g hg=>hx g (by simp [tks,hg])).mono (fun _ _=>rfl) (Nat.le_refl _),g6⟩
 ·refine List.nodup_append.2 ⟨tk_nd _,n2,fun a ha b hb hab=>?_⟩
  subst hab
  rcases w4 a ha with h | h
  ·exact n3 a h a hb rfl
  have:=h3.lt a hb;omega
 ·have ho:=(oh g).1 ho
  rcases List.mem_append.1 hg with hg | hg
  ·rcases w4 g hg with h | h
   ·exact hno g h ho
   have:=hlt g ho;omega
  exact h5 g (by simp [hg]) ho
 refine ⟨Nat.le_of_eq w3.nx.symm,w3.mn,Nat.le_of_eq w3.gn.symm,fun g _=>by show S1.gl g=_;rw [w3.gl],w3.Q,fun i hi hx=>(upd_ne _ _ (by simp at hx;exact hx.1)).trans (congrFun w3.ob i),fun g hg ho=>w3.mu g hg fun hx=>ho (own_two.2 (.inl ((own_im h1).2 (by simp [hx])))),fun g hg=>?_⟩
 rcases own_two.1 hg with hg | hg
 ·have hg:=(own_im (upd_same _ _ _)).1 hg
  rcases List.mem_append.1 hg with hg | hg
  ·exact (w4 g hg).imp (fun h=>own_two.2 (.inl ((own_im h1).2 (by simp [h])))) id
  exact .inl (own_two.2 (.inl ((own_im h1).2 (by simp [hg]))))
 exact .inl (own_two.2 (.inr ((oh g).1 hg)))
theorem get_c (s:Sg) (im ih:Nat) (m:VM) (r0:Int) (hM:MS im ih m s) (h0:0 ≤ r0):HC p N70_ [.ptr im 0,I r0] s (fun r s'=>r=[.agg [B (getR m.regs r0).ref,I (getR m.regs r0).n]] ∧ s'=s):=by
 obtain ⟨vr,vo,h1m,h2m,h3m,h4m,h5m⟩:=hM.row
 refine hcf J f70_ J ?_
 simp only [chainOf]
 refine er (hal (dq2 J) (qn (kq3 J) (kq1 J) (eseq (er (pq4 J (hldo J h1m J ?_))))))
 refine hlenA J h2m.len ?_
 rw [lw]
 refine qp J (qb ?_)
 rintro (_ | _) h1
 ·refine qn (kq4 J) (kq1 J) (ecF J (eskip (sqn (er (hbuild J J (lq2 J) (hstl J J J J (Nlb J) (lq2 J) (qn (kq1 J) (kq1 J) (eret (fqr J ?_)))))))))
  first
  | exact ⟨by rw [getR,hw];rfl,rfl⟩
  | exact ⟨by rw [getR,List.getElem?_eq_none (by simp at h1;omega)];rfl,rfl⟩
 refine qn (kq4 J) (kq1 J) (ecT J (er (pq3 J ?_)))
 obtain ⟨w,hw⟩:=get_of_lt (l:=m.regs) (i:=r0.toNat) (by simp at h1;omega)
 refine hldo J h1m J ?_
 refine qp J ?_
 obtain ⟨q,q1,q2⟩:=(h2m.rl (wcs_sz _)).at_ (j:=r0) (y:=w.enc) h0 (by rw [wcs,Lgm,hw];rfl)
 refine hiaR J J q1 (hldR J q2 J (hstl J J J J (Nlb J) (lq2 J) (qn (kq1 J) (kq1 J) (eret (sqr (fqr J ?_))))))
 first
 | exact ⟨by rw [getR,hw];rfl,rfl⟩
 | exact ⟨by rw [getR,List.getElem?_eq_none (by simp at h1;omega)];rfl,rfl⟩
end Go.Sim.W
namespace Go.Sim.W
open Go Go.Sim
theorem we_snoc {v:AV} {l:List Word} {w:Word} {S:Sg} (h:WE 2 v (wcs l ++ [.agg [B w.ref,I w.n]]) S):WE 2 v (wcs (l ++ [w])) S:=by
 rw [wcs_app]
 exact h
theorem set_word {l:List Word} {r:Nat} {w:Word} (h:r < l.length):wr (flat (wcs l)) (r * 2) w.enc.cells=flat (wcs (l.set r w)):=by
 rw [show wcs (l.set r w)=(wcs l).set r w.enc from by simp [wcs,List.map_set]]
 exact flat_set (wcs_sz _) rfl (by rwa [lw])
theorem mx_fresh {S0 S S1:Sg} {g0 n:Nat} (hK:MX [] S0 S) (hg:S0.mn ≤ g0) (w:MX (tk (.ms g0 0 n 2)) S S1):MX [] S0 S1 :=
 hK.trans w fun g h=>.inr (by rw [List.mem_singleton.1 h];exact hg)
theorem padR_snoc {l:List Word} {n:Nat} (h:l.length < n):padR (l ++ [w0]) n=padR l n:=by
 unfold padR
 rw [List.append_assoc]
 refine congrArg (l ++ ·) ?_
 rw [List.length_append,List.length_singleton,show n - l.length=(n - (l.length + 1)) + 1 from by omega,List.replicate_succ]
 rfl
theorem padR_ge {l:List Word} {n:Nat} (h:n ≤ l.length):padR l n=l:=by
 unfold padR
 rw [Nat.sub_eq_zero_of_le h]
 simp
theorem padR_len (l:List Word) (n:Nat):n ≤ (padR l n).length:=by
 unfold padR
 rw [List.length_append,List.length_replicate]
 omega
theorem getR_has {obs:List HOb} {l:List Word} {r:Int} (h:validW obs l=true) (hr:(getR l r).ref=true):hasF obs (getR l r).n=true:=by
 cases hx:l[r.toNat]? with
 | none=>rw [getR,hx] at hr;cases hr
 | some w =>
   have e:getR l r=w:=by rw [getR,hx];rfl
   rw [e] at hr ⊢
   have:=(List.all_eq_true.1 h) w (Lmg hx)
   simpa [hr] using this
theorem MS.wrR {im ih:Nat} {m:VM} {S:Sg} {vr vo:AV} (h:MS im ih m S) (h1:S.ob im=some (.row (m.row ih vr vo))) {r:Nat} (hr:r < m.regs.length) (w:Word) :
 ∃ g,vr=.ms g 0 m.regs.length 2 ∧ S.mu g=some (flat (wcs m.regs)) ∧ MS im ih { m with regs:=m.regs.set r w } { S with mu:=upd S.mu g (some (flat (wcs (m.regs.set r w)))) } ∧ KX [im,ih] S { S with mu:=upd S.mu g (some (flat (wcs (m.regs.set r w)))) }:=by
 obtain ⟨vr',vo',h1',h2,h3,h4,h5⟩:=h.row
 have hrr:vr'=vr ∧ vo'=vo:=by
  rw [h1] at h1'
  simp only [VM.row,Oie,AObj.row.injEq,List.cons.injEq] at h1'
  exact ⟨h1'.2.2.2.2.1.symm,h1'.2.2.2.2.2.2.2.2.2.2.2.1.symm⟩
 obtain ⟨rfl,rfl⟩:=hrr
 rcases h2.2 with ⟨h0,_⟩ | ⟨g,rfl,g1,g2⟩
 ·rw [lw] at h0
  omega
 have hd:∀ g' ∈ tk vo',g' ≠ g:=fun g' hg' e=>by
  subst e
  exact (List.nodup_append.1 h4).2.2 g' (by simp [tk]) g' hg' rfl
 have hno:¬ own [ih] S g:=h5 g (by simp [tk])
 refine ⟨g,by rw [lw],g1,⟨h.ne,h.lt,⟨h.hp.1.mset hno,h.hp.2⟩,.ms g 0 (wcs m.regs).length 2,vo',h1,⟨by rw [flat_len (wcs_sz _)],.inr ⟨g,by simp [lw],upd_same _ _ _,g2⟩⟩,h3.mono (fun g' hg'=>upd_ne _ _ (hd g' hg')) (Nat.le_refl _),h4,h5⟩,
  ⟨Nat.le_refl _,Nat.le_refl _,Nat.le_refl _,fun _ _=>rfl,rfl,fun _ _ _=>rfl,fun g' hg' ho=>upd_ne _ _ fun e=>ho (by rw [e];exact own_two.2 (.inl ((own_im h1).2 (by simp [tk])))),fun g' hg'=>.inl hg'⟩⟩
theorem MS.setO {im ih:Nat} {m:VM} {S S1:Sg} {vr vo v':AV} {l:List Int} (h:MS im ih m S) (h1:S.ob im=some (.row (m.row ih vr vo)))
 (w2:WE 1 v' (l.map I) S1) (w3:MX (tk vo) S S1) (w4:∀ g ∈ tk v',g ∈ tk vo ∨ S.mn ≤ g) :
 MS im ih { m with outs:=l } (S1.set im (.row (VM.row { m with outs:=l } ih vr v'))) ∧ KX [im,ih] S (S1.set im (.row (VM.row { m with outs:=l } ih vr v'))):=by
 obtain ⟨vr',vo',h1',h2,h3,h4,h5⟩:=h.row
 have hrr:vr'=vr ∧ vo'=vo:=by
  rw [h1] at h1'
  simp only [VM.row,Oie,AObj.row.injEq,List.cons.injEq] at h1'
  exact ⟨h1'.2.2.2.2.1.symm,h1'.2.2.2.2.2.2.2.2.2.2.2.1.symm⟩
 obtain ⟨rfl,rfl⟩:=hrr
 have hne:=h.ne
 obtain ⟨n1,n2,n3⟩:=List.nodup_append.1 h4
 have hno:∀ g ∈ tk vo',¬ own [ih] S g:=fun g hg=>h5 g (by simp [hg])
 have oh:∀ g,own [ih] (S1.set im (.row (VM.row { m with outs:=l } ih vr' v'))) g ↔ own [ih] S g:=fun g=>(own_set hne).trans (own_ob w3.ob)
 have hlt:∀ g,own [ih] S g → g < S.mn:=fun g ho=>own_lt h.hp.1 rfl ho
 have k2:=h2.mx w3 fun g hg hx=>n3 g hg g hx rfl
 refine ⟨⟨hne,by show im < S1.nx;rw [w3.nx];exact h.lt,⟨?_,h.hp.2⟩,vr',v',upd_same _ _ _,k2.mono (fun _ _=>rfl) (Nat.le_refl _),w2.mono (fun _ _=>rfl) (Nat.le_refl _),?_,fun g hg ho=>?_⟩,?_⟩
 ·obtain ⟨vc,vs,vo2,g1,g2,g3,g4,g5,g6⟩:=h.hp.1
  have hx:∀ g ∈ tks [vc,vs,vo2],g ∉ tk vo':=fun g hg hx=>hno g hx ((own_row g1).2 (by rw [tks_app];simp [hg]))
  exact ⟨vc,vs,vo2,(upd_ne _ _ (Ne.symm hne)).trans ((congrFun w3.ob ih).trans g1),by show ih < S1.nx;rw [w3.nx];exact g2,(g3.mx w3 fun g hg=>hx g (by simp [tks,hg])).mono (fun _ _=>rfl) (Nat.le_refl _),(g4.mx w3 fun g hg=>hx g (by simp [tks,hg])).mono (fun _ _=>rfl) (Nat.le_refl _),(g5.mx w3 fun g hg=>hx g (by simp [tks,hg])).mono (fun _ _=>rfl) (Nat.le_refl _),g6⟩
 ·refine List.nodup_append.2 ⟨n1,tk_nd _,fun a ha b hb hab=>?_⟩
  subst hab
  rcases w4 a hb with h | h
  ·exact n3 a ha a h rfl
  have:=h2.lt a ha;omega
 ·have ho:=(oh g).1 ho
  rcases List.mem_append.1 hg with hg | hg
  ·exact h5 g (by simp [hg]) ho
  rcases w4 g hg with h | h
  ·exact hno g h ho
  have:=hlt g ho;omega
 refine ⟨Nat.le_of_eq w3.nx.symm,w3.mn,Nat.le_of_eq w3.gn.symm,fun g _=>by show S1.gl g=_;rw [w3.gl],w3.Q,fun i hi hx=>(upd_ne _ _ (by simp at hx;exact hx.1)).trans (congrFun w3.ob i),fun g hg ho=>w3.mu g hg fun hx=>ho (own_two.2 (.inl ((own_im h1).2 (by simp [hx])))),fun g hg=>?_⟩
 rcases own_two.1 hg with hg | hg
 ·have hg:=(own_im (upd_same _ _ _)).1 hg
  rcases List.mem_append.1 hg with hg | hg
  ·exact .inl (own_two.2 (.inl ((own_im h1).2 (by simp [hg]))))
  exact (w4 g hg).imp (fun h=>own_two.2 (.inl ((own_im h1).2 (by simp [h])))) id
 exact .inl (own_two.2 (.inr ((oh g).1 hg)))
theorem MS.hkx {im ih:Nat} {m:VM} {S S1:Sg} {h':RH} (h:MS im ih m S) (w1:HS ih h' S1) (w3:KX [ih] S S1):MS im ih { m with h:=h' } S1 ∧ KX [im,ih] S S1:=by
 obtain ⟨vr,vo,h1,h2,h3,h4,h5⟩:=h.row
 refine ⟨⟨h.ne,Nat.lt_of_lt_of_le h.lt w3.nx,w1,vr,vo,(w3.ob im h.lt (by simpa using h.ne)).trans h1,h2.mono (fun g hg=>w3.mu g (h2.lt g hg) (h5 g (by simp [hg]))) w3.mn,h3.mono (fun g hg=>w3.mu g (h3.lt g hg) (h5 g (by simp [hg]))) w3.mn,h4,fun g hg ho=>?_⟩,w3.up h.lth (by simp)⟩
 rcases w3.own g ho with h' | h'
 ·exact h5 g hg h'
 rcases List.mem_append.1 hg with hg | hg
 ·have:=h2.lt g hg;omega
 have:=h3.lt g hg;omega
theorem MS.gcS {im ih:Nat} {m:VM} {S S1:Sg} {vr vo v':AV} {l:List Word} {h':RH} (h:MS im ih m S) (h1:S.ob im=some (.row (m.row ih vr vo))) (w1:HS ih h' S1) (w2:WE 2 v' (wcs l) S1) (w3:KX [ih] S S1) (w4:∀ g ∈ tk v',S.mn ≤ g ∧ ¬ own [ih] S1 g) :
 S1.ob im=some (.row (m.row ih vr vo)) ∧ MS im ih { m with h:=h',regs:=l } (S1.set im (.row (VM.row { m with h:=h',regs:=l } ih v' vo))) ∧ KX [im,ih] S (S1.set im (.row (VM.row { m with h:=h',regs:=l } ih v' vo))):=by
 obtain ⟨vr',vo',h1',h2,h3,h4,h5⟩:=h.row
 have hrr:vr'=vr ∧ vo'=vo:=by
  rw [h1] at h1'
  simp only [VM.row,Oie,AObj.row.injEq,List.cons.injEq] at h1'
  exact ⟨h1'.2.2.2.2.1.symm,h1'.2.2.2.2.2.2.2.2.2.2.2.1.symm⟩
 obtain ⟨rfl,rfl⟩:=hrr
 have hne:=h.ne
 obtain ⟨n1,n2,n3⟩:=List.nodup_append.1 h4
 have ob1:S1.ob im=some (.row (m.row ih vr' vo')):=(w3.ob im h.lt (by simpa using hne)).trans h1
 have oh:∀ g,own [ih] (S1.set im (.row (VM.row { m with h:=h',regs:=l } ih v' vo'))) g ↔ own [ih] S1 g:=fun g=>own_set hne
 have hvo:∀ g ∈ tk vo',¬ own [ih] S g:=fun g hg=>h5 g (by simp [hg])
 have hlt:∀ g,own [ih] S g → g < S.mn:=fun g ho=>own_lt h.hp.1 rfl ho
 refine ⟨ob1,⟨hne,Nat.lt_of_lt_of_le h.lt w3.nx,⟨?_,w1.2⟩,v',vo',upd_same _ _ _,w2.mono (fun _ _=>J) (Nat.le_refl _),(h3.mono (fun g hg=>w3.mu g (h3.lt g hg) (hvo g hg)) w3.mn).mono (fun _ _=>J) (Nat.le_refl _),?_,fun g hg ho=>?_⟩,?_⟩
 ·obtain ⟨vc,vs,vo2,g1,g2,g3,g4,g5,g6⟩:=w1.1
  exact ⟨vc,vs,vo2,(upd_ne _ _ (Ne.symm hne)).trans g1,g2,g3.mono (fun _ _=>rfl) (Nat.le_refl _),g4.mono (fun _ _=>rfl) (Nat.le_refl _),g5.mono (fun _ _=>rfl) (Nat.le_refl _),g6⟩
 ·refine List.nodup_append.2 ⟨tk_nd _,n2,fun a ha b hb hab=>?_⟩
  subst hab
  have:=h3.lt a hb
  have:=(w4 a ha).1
  omega
 ·have ho:=(oh g).1 ho
  rcases List.mem_append.1 hg with hg | hg
  ·exact (w4 g hg).2 ho
  rcases w3.own g ho with h | h
  ·exact hvo g hg h
  have:=h3.lt g hg;omega
 have k:=(w3.up (Y:=[im,ih]) h.lth (by simp))
 refine ⟨k.nx,k.mn,k.gn,k.gl,k.Q,fun i hi hx=>(upd_ne _ _ (by simp at hx;exact hx.1)).trans (k.ob i hi hx),k.mu,fun g hg=>?_⟩
 rcases own_two.1 hg with hg | hg
 ·have hg:=(own_im (upd_same _ _ _)).1 hg
  rcases List.mem_append.1 hg with hg | hg
  ·exact .inr (w4 g hg).1
  exact .inl (own_two.2 (.inl ((own_im h1).2 (by simp [hg]))))
 exact k.own g (own_two.2 (.inr ((oh g).1 hg)))
theorem set_l (im ih:Nat) (r0:Int) (h0:0 ≤ r0 ∧ r0 ≤ 2 ^ 20) (w:Word) (S0:Sg) (m:VM) {n:Nat} {v:Nat → Bool} {D:List (Nat × List AV)} {S:Sg} {Q:Ex → Fr → Prop} (hM:MS im ih m S) (hK:KX [im,ih] S0 S)
 (hX:∀ S',MS im ih { m with regs:=padR m.regs (r0.toNat + 1) } S' → KX [im,ih] S0 S' → Q (.exit 0) ⟨upd (upd (upd (upd ((fun _=>none)) 12 (some (.val (B false)))) 5 (some (.loc 5 0))) 1 (some (.val (I r0)))) 0 (some (.val (.ptr im 0))),upd ((fun _=>none)) 5 (some ([B w.ref,I w.n])),n,v,D,S'⟩):EX (callL p) (.loop F69_l1) ⟨upd (upd (upd ((fun _=>none)) 5 (some (.loc 5 0))) 1 (some (.val (I r0)))) 0 (some (.val (.ptr im 0))),upd ((fun _=>none)) 5 (some ([B w.ref,I w.n])),n,v,D,S⟩ Q:=by
 refine eloop (eseq (er (pq4 J ?_)))
 obtain ⟨vr,vo,h1m,h2m,h3m,h4m,h5m⟩:=hM.row
 refine hldo J h1m J ?_
 refine hlenA J h2m.len ?_
 rw [lw]
 refine qp J (qb ?_)
 rintro (_ | _) h1
 ·refine qn (kq4 J) (kq1 J) (ecF J (eexit (sqx ?_)))
  have e:padR m.regs (r0.toNat + 1)=m.regs:=padR_ge (by simp at h1;omega)
  exact hX _ (by rw [e];exact hM) hK
 refine qn (kq4 J) (kq1 J) (ecT J (eskip (sqn (eblock (ereg (pq4 J ?_))))))
 have hlt:m.regs.length < r0.toNat + 1:=by simp at h1;omega
 refine hldo J h1m J ?_
 refine hbuild J J (lq2 J) (hbsl J J (lq1 J) ?_)
 obtain ⟨v1,S1,w1,w2,w3,w4⟩:=appm_e (by_:=16) h2m (RL.one (sz:=2) (y:=.agg [B false,I 0]) (o:=.full) rfl) (by simp [lw];omega)
 have w2:=we_snoc (w:=w0) w2
 refine hwop rfl w1 (qp rfl (qp rfl (hst3 (cs':=VM.row { m with regs:=m.regs ++ [w0] } ih v1 vo) rfl rfl ((congrFun w3.ob im).trans h1m) w2.c1 w2.erT w2.tip (by simp [VM.row]) (by rw [w2.c1];rfl) ?_)))
 obtain ⟨M1,K1⟩:=hM.setR h1m w2 w3 w4
 refine qk (kq3 J) (kq1 J) (bqn ?_)
 exact set_l im ih r0 h0 w S0 { m with regs:=m.regs ++ [w0] } M1 (hK.trans K1) (fun S' c d=>hX S' (by rw [← padR_snoc hlt];exact c) d)
termination_by r0.toNat + 1 - m.regs.length
decreasing_by all_goals (simp;omega)
theorem set_c (s:Sg) (im ih:Nat) (m:VM) (r0:Int) (w:Word) (hM:MS im ih m s) (h0:0 ≤ r0 ∧ r0 ≤ 2 ^ 20):HC p N69_ [.ptr im 0,I r0,.agg [B w.ref,I w.n]] s (fun r s'=>r=[] ∧ MS im ih { m with regs:=setR m.regs r0 w } s' ∧ KX [im,ih] s s'):=by
 refine hcf J f69_ J ?_
 simp only [chainOf]
 refine er (hbox (dq3 J) J (lq2 J) (qn (kq3 J) (kq1 J) (eseq (eblock (set_l im ih r0 h0 w s m hM (KX.refl _ _) ?_)))))
 intro S' M1 K1
 refine bqx (sqn (ereg (pq3 J ?_)))
 obtain ⟨vr,vo,h1m,h2m,h3m,h4m,h5m⟩:=M1.row
 obtain ⟨g,rfl,g1,g2,g3⟩:=M1.wrR h1m (r:=r0.toNat) (padR_len m.regs (r0.toNat + 1)) w
 refine hldo J h1m J ?_
 refine qp J (hlda J J (lq2 J) ?_)
 have hlt:=padR_len m.regs (r0.toNat + 1)
 refine hiam rfl rfl h0.1 (show r0.toNat < (padR m.regs (r0.toNat + 1)).length from by omega) (hstm (y:=.agg [B w.ref,I w.n]) (cs':=flat (wcs ((padR m.regs (r0.toNat + 1)).set r0.toNat w))) rfl rfl g1 rfl (by rw [flat_len (wcs_sz _),lw];simp [AV.cells];omega) (by simp) (by rw [Nat.zero_add];exact set_word (show r0.toNat < (padR m.regs (r0.toNat + 1)).length from by omega)) (qk kn kn (fqn rfl ?_)))
 exact ⟨rfl,g2,K1.trans g3⟩
theorem list_l (im ih:Nat) (m:VM) (l:List Int) (hl:∀ r ∈ l,0 ≤ r) (hs:l.length ≤ 2 ^ 40) (S0:Sg) (j:Nat) (hj:j ≤ l.length) (u:AV) {n:Nat} {v:Nat → Bool} {D:List (Nat × List AV)} {S:Sg} {Q:Ex → Fr → Prop} (hM:MS im ih m S0) (hu:WE 2 u (wcs (listR m.regs (l.take j))) S) (hK:MX [] S0 S) (hg:∃ g n,u=.ms g 0 n 2 ∧ S0.mn ≤ g)
 (hX:∀ k u' S',WE 2 u' (wcs (listR m.regs l)) S' → MX [] S0 S' → (∃ g n,u'=.ms g 0 n 2 ∧ S0.mn ≤ g) → Q (.exit 0) ⟨upd (upd (upd (upd (upd (upd ((fun _=>none)) 15 (some (.val (B false)))) 14 (some (.val (I k)))) 13 (some (.val (I (l.map I).length)))) 12 (some (.val (ints l)))) 5 (some (.val u'))) 0 (some (.val (.ptr im 0))),(fun _=>none),n,v,D,S'⟩):EX (callL p) (.loop F73_l1) ⟨upd (upd (upd (upd (upd ((fun _=>none)) 14 (some (.val (I j)))) 13 (some (.val (I (l.map I).length)))) 12 (some (.val (ints l)))) 5 (some (.val u))) 0 (some (.val (.ptr im 0))),(fun _=>none),n,v,D,S⟩ Q:=by
 refine eloop (er (qp J (qb ?_)))
 rintro (_ | _) h1
 ·refine qn (kq6 J) kn (eseq (ecF J (eexit (sqx ?_))))
  have e:l.take j=l:=List.take_of_length_le (by simp at h1;omega)
  exact hX _ _ _ (by rw [← e];exact hu) hK hg
 refine qn (kq6 J) kn (eseq (ecT J (eskip (sqn (eseq (eblock (er ?_)))))))
 have hlt:j < l.length:=by simpa using h1
 obtain ⟨a,ha⟩:=get_of_lt hlt
 have h0:=hl a (Lmg ha)
 refine hia (y:=I a) rfl rfl (by omega) (by simp [ha]) rfl (qp rfl (qp rfl (qk (kc rfl (kc rfl (kc rfl (kc rfl (kc rfl (kc rfl kn)))))) kn (sqn (ereg (qp rfl (qp rfl (qp rfl (hcall rfl rfl rfl (get_c _ im ih m a (hM.kl hK.kl) h0) ?_)))))))))
 rintro _ _ ⟨rfl,rfl⟩
 refine hbsl J J (lq1 J) ?_
 obtain ⟨g0,n0,rfl,hg0⟩:=hg
 obtain ⟨v1,S1,w1,w2,w3,w4⟩:=appm_e (by_:=16) hu (RL.one (sz:=2) (y:=.agg [B (getR m.regs a).ref,I (getR m.regs a).n]) (o:=.full) rfl) (by simp [lw,listR];omega)
 have e1:listR m.regs (l.take (j + 1))=listR m.regs (l.take j) ++ [getR m.regs a]:=by rw [List.take_add_one,ha,listR,List.map_append];rfl
 have w2:=we_snoc (w:=getR m.regs a) w2
 rw [← e1] at w2
 have k3:=mx_fresh hK hg0 w3
 have hg2:∃ g n,v1=.ms g 0 n 2 ∧ S0.mn ≤ g:=by
  rcases w2.2 with ⟨h0,_⟩ | ⟨g,rfl,_⟩
  ·exfalso;rw [lw,listR,List.length_map,List.length_take] at h0;omega
  exact ⟨g,_,rfl,(w4 g (by simp [tk])).elim (fun h=>by rw [List.mem_singleton.1 h];exact hg0) fun h=>Nat.le_trans hK.mn h⟩
 refine hwop J w1 (qp J (qk (kq5 J) kn (bqn (sqn (ereg (hadd J J (i64w (by omega)) (qp J (qk (kq5 J) kn ?_))))))))
 exact list_l im ih m l hl hs S0 (j + 1) (by omega) v1 hM w2 k3 hg2 hX
termination_by l.length - j
decreasing_by all_goals omega
theorem mks0 {sz by_ n:Nat} {z:List AV} {S:Sg} (h:n * by_ ≤ 2 ^ 47):wopOf (.mks sz by_ z) S [I 0,I n]=some (.ms S.mn 0 0 sz,{ S with mu:=upd S.mu S.mn (some []),mn:=S.mn + 1 }):=by
 simp only [wopOf,asN,I,Obs,mksOf]
 rw [if_pos ⟨by omega,by omega,by simpa using h⟩]
 rfl
theorem list_c (s:Sg) (im ih:Nat) (m:VM) (l:List Int) (hM:MS im ih m s) (hl:∀ r ∈ l,0 ≤ r) (hs:l.length ≤ 2 ^ 30):HC p N73_ [.ptr im 0,ints l] s (fun r s'=>∃ u g n,r=[u] ∧ u=.ms g 0 n 2 ∧ s.mn ≤ g ∧ WE 2 u (wcs (listR m.regs l)) s' ∧ MX [] s s'):=by
 refine hcf J f73_ J ?_
 simp only [chainOf]
 refine eseq (ereg (qp rfl (qk (kc rfl (kc rfl kn)) kn (sqn (eseq (ereg (qp rfl (qp rfl (hadd rfl rfl (r:=((l.length + 1:Nat):Int)) (by rw [List.length_map];exact (i64w (by omega)).trans (by omega)) (hwop rfl (mks0 (n:=l.length + 1) (by omega)) (qp rfl (qk (kc rfl (kc rfl (kc rfl kn))) kn (sqn (eseq (eseq (ereg (qp rfl (qp rfl (qp rfl (qk (kc rfl (kc rfl (kc rfl (kc rfl (kc rfl kn))))) kn (sqn (eblock (list_l im ih m l hl (by omega) s 0 (by omega) _ hM ⟨rfl,.inr ⟨s.mn,rfl,upd_same _ _ _,Nat.lt_succ_self _⟩⟩ ⟨rfl,rfl,rfl,rfl,rfl,Nat.le_succ _,fun g hg _=>upd_ne _ _ (by omega)⟩ ⟨s.mn,0,rfl,Nat.le_refl _⟩ ?_)))))))))))))))))))))))
 rintro k u' S' c1 c2 ⟨g,n,rfl,hg⟩
 refine bqx (sqn (er (pq2 J (qn (kq1 J) kn (eret (fqr J ?_))))))
 exact ⟨_,g,n,rfl,rfl,hg,c1,c2⟩
theorem mtag_c (s:Sg) (im ih:Nat) (m:VM) (r0:Int) (hM:MS im ih m s) (h0:0 ≤ r0) (hv:validW m.h.obs m.regs=true):HC p N75_ [.ptr im 0,I r0] s (fun r s'=>r=[I (tagR m r0)] ∧ s'=s):=by
 obtain ⟨vr,vo,h1m,h2m,h3m,h4m,h5m⟩:=hM.row
 refine hcf J f75_ J ?_
 simp only [chainOf]
 refine er (qp J (qn (kq2 J) kn (er (pq2 J (hcall J J J (get_c _ im ih m r0 hM h0) ?_)))))
 rintro _ _ ⟨rfl,rfl⟩
 refine hal (dq5 J) (hstl J J J J (Nlb J) (lq2 J) (qn (kq2 J) (kq1 J) (eseq (er (pq2 J (qb ?_))))))
 rintro (_ | _) h1
 ·refine qp J (qn (kq3 J) (kq1 J) (ecT J (er (qp J (qn (kq1 J) kn (eret (sqr (fqr J ?_))))))))
  first
  | exact ⟨by rw [tagR,if_neg (by simpa using h1)];rfl,rfl⟩
  | exact ⟨by rw [tagR,if_pos hr,ho];rfl,rfl⟩
 refine qp J (qn (kq3 J) (kq1 J) (ecF J (eskip (sqn (er (pq3 J ?_))))))
 have hr:(getR m.regs r0).ref=true:=by simpa using h1
 obtain ⟨o,ho⟩:=Option.isSome_iff_exists.1 (getR_has hv hr)
 refine hldo J h1m J ?_
 refine pq2 J (hcall J J J (Htag_c _ ih m.h _ o hM.hp ho) ?_)
 rintro _ _ ⟨rfl,rfl⟩
 refine pq5 J (qn (kq1 J) kn (er (pq2 J (qn (kq1 J) kn (eret (fqr J ?_))))))
 first
 | exact ⟨by rw [tagR,if_neg (by simpa using h1)];rfl,rfl⟩
 | exact ⟨by rw [tagR,if_pos hr,ho];rfl,rfl⟩
theorem mcollect_c (s:Sg) (im ih:Nat) (m:VM) (hM:MS im ih m s) (hl:m.regs.length ≤ 2 ^ 30) (hv:validW m.h.obs m.regs=true):HC p N25_ [.ptr im 0] s (fun r s'=>r=[] ∧ MS im ih m.gc s' ∧ KX [im,ih] s s'):=by
 obtain ⟨vr,vo,h1m,h2m,h3m,h4m,h5m⟩:=hM.row
 refine hcf J f25_ J ?_
 simp only [chainOf]
 refine er (pq3 J (hldo J h1m J ?_))
 refine pq3 J (hldo J h1m J ?_)
 refine hcall J J J (collect_c _ ih m.h hM.hp vr.er m.regs hl (h2m.rl (wcs_sz _)).ere hv) ?_
 rintro _ S1 ⟨v1,rfl,w1,w2,w3,w4⟩
 obtain ⟨ob1,M1,K1⟩:=hM.gcS h1m w1 w2 w3 w4
 refine pq5 J (qn (kq3 J) kn (er (pq2 J (qb ?_))))
 rintro (_ | _) h1
 ·simp at h1
 refine qk (kc rfl (kc rfl (kc rfl kn))) kn (sqn (ecT rfl (ereg (qp rfl (qp rfl (qp rfl (qp rfl (hst3 (cs':=VM.row m.gc ih v1 vo) rfl rfl ob1 w2.c1 w2.erT w2.tip (by simp [VM.row]) (by rw [w2.c1];rfl) (qk kn kn (fqn rfl ?_))))))))))
 exact ⟨rfl,M1,K1⟩
end Go.Sim.W
