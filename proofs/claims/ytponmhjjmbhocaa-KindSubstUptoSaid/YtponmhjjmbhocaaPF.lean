/-
  A part of a proof: see the last text of this claim.
-/
import Derived.Test.YtponmhjjmbhocaaPE
set_option linter.unusedVariables false
set_option linter.unusedSimpArgs false
namespace Go.Sim.Kd
open Go Go.Sim
def setT (X:Int → Option Int) (v:Int) (o:Option Int):Int → Option Int:=fun n=>if n=v then o else X n
abbrev bindT (X:Int → Option Int) (v t:Int):Int → Option Int:=setT X v (some t)
theorem setT_back (X:Int → Option Int) (v:Int) (o:Option Int):setT (setT X v o) v (X v)=X:=by
 funext n
 unfold setT
 by_cases h:n=v
 ·subst h;simp
 simp [h]
theorem setT_twice (X:Int → Option Int) (v:Int) (o q:Option Int):setT (setT X v o) v q=setT X v q:=by
 funext n
 unfold setT
 by_cases h:n=v
 ·simp [h]
 simp [h]
def bindsT (w:Bool) (X:Int → Option Int):List Int → List Arg → (Int → Option Int)
 | v :: vs,a :: as=>bindsT w (if a.co=w then bindT X v a.ty else X) vs as
 | _,_=>X
abbrev Old:=Bool × Int × Option Int
def olds (X A:Int → Option Int):List Int → List Arg → List Old
 | v :: vs,a :: as=>(a.co,v,(if a.co=true then A else X) v) :: olds (if a.co=false then bindT X v a.ty else X) (if a.co=true then bindT A v a.ty else A) vs as
 | _,_=>[]
def undo (w:Bool) (X:Int → Option Int) (l:List Old):Int → Option Int:=l.foldr (fun q Y=>if q.1=w then setT Y q.2.1 q.2.2 else Y) X
theorem undo_olds (w:Bool):∀ (vs:List Int) (as:List Arg) (X A:Int → Option Int),undo w (bindsT w (if w then A else X) vs as) (olds X A vs as)=if w then A else X
 | [],_,X,A=>by simp [olds,bindsT,undo]
 | _ :: _,[],X,A=>by simp [olds,bindsT,undo]
 | v :: vs,a :: as,X,A=>by
   have ih:=undo_olds w vs as (if a.co=false then bindT X v a.ty else X) (if a.co=true then bindT A v a.ty else A)
   simp only [olds,bindsT,undo,List.foldr_cons] at ih ⊢
   by_cases hc:a.co=w
   ·subst hc
    have e:(if a.co=true then (if a.co=true then bindT A v a.ty else A) else (if a.co=false then bindT X v a.ty else X))=bindT (if a.co=true then A else X) v a.ty:=by cases a.co <;> rfl
    rw [e] at ih
    rw [if_pos rfl,if_pos rfl,ih,setT_back]
   have e:(if w=true then (if a.co=true then bindT A v a.ty else A) else (if a.co=false then bindT X v a.ty else X))=if w=true then A else X:=by
    cases w <;> cases h:a.co <;> simp_all
   rw [e] at ih
   rw [if_neg hc,if_neg hc,ih]
def dom (X:Int → Option Int):Int → Bool:=fun n=>(X n).isSome
theorem dom_bind (X:Int → Option Int) (v t:Int):dom (bindT X v t)=addV (dom X) v:=by
 funext n
 simp only [dom,bindT,setT,addV]
 by_cases h:n=v <;> simp [h]
theorem dom_binds (w:Bool):∀ (vs:List Int) (as:List Arg) (X:Int → Option Int),vs.length=as.length → dom (bindsT w X vs as)=addsV w (dom X) vs (as.map fun a=>a.co)
 | [],_,X,_=>by simp [bindsT,addsV]
 | _ :: _,[],X,h=>by simp at h
 | v :: vs,a :: as,X,h=>by
   rw [bindsT,dom_binds w vs as _ (by simpa using h),List.map_cons,addsV,List.headD_cons,List.tail_cons]
   split
   ·rw [dom_bind]
   rfl
def tyM (X:Int → Option Int):Value → Option AV
 | .int .i64 n=>(X n).map I
 | _=>none
theorem tyM_set (X:Int → Option Int) (v t:Int):mset (tyM X) (.int .i64 v) (some (I t))=tyM (bindT X v t):=by
 funext k
 unfold mset
 by_cases h:k=.int .i64 v
 ·subst h;simp [tyM,setT]
 rw [if_neg h]
 cases k <;> try rfl
 rename_i kd n
 cases kd <;> try rfl
 have hne:n ≠ v:=fun e=>h (by rw [e])
 simp [tyM,setT,hne]
theorem tyM_del (X:Int → Option Int) (v:Int):mset (tyM X) (.int .i64 v) none=tyM (setT X v none):=by
 funext k
 unfold mset
 by_cases h:k=.int .i64 v
 ·subst h;simp [tyM,setT]
 rw [if_neg h]
 cases k <;> try rfl
 rename_i kd n
 cases kd <;> try rfl
 have hne:n ≠ v:=fun e=>h (by rw [e])
 simp [tyM,setT,hne]
theorem tyM_get (X:Int → Option Int) (v:Int):(tyM X (.int .i64 v)).getD (I 0)=I ((X v).getD 0):=by
 simp only [tyM]
 cases X v <;> rfl
theorem tyM_some (X:Int → Option Int) (v:Int):(tyM X (.int .i64 v)).isSome=(X v).isSome:=by
 simp only [tyM]
 cases X v <;> rfl
theorem tyM_nil:tyM (fun _=>none)=fun _=>none:=by
 funext k
 cases k <;> try rfl
 rename_i kd n
 cases kd <;> rfl
abbrev encO (q:Old):AV:=.agg [I (sideOf q.1),I q.2.1,I (q.2.2.getD 0),B q.2.2.isSome]
def kRules (k:Nat):List AV:=[.fn N31_ [.ptr k 0] [],.fn N32_ [.ptr k 0] [],.fn N33_ [.ptr k 0] [],.fn N34_ [.ptr k 0] [],.fn N35_ [.ptr k 0] [],
 .fn N31_ [.ptr k 0] [],.fn N33_ [.ptr k 0] [],.fn N34_ [.ptr k 0] [],.fn N35_ [.ptr k 0] [],.fn N36_ [.ptr k 0] [],.fn N37_ [.ptr k 0] [],
 .fn N38_ [.ptr k 0] [],.fn N38_ [.ptr k 0] [],.fn N39_ [.ptr k 0] [],.fn N38_ [.ptr k 0] []]
def kCells (c:Core) (k i0 i1:Nat):List AV:=SL 3 (c.decls.map Decl.enc) :: SL 8 (c.funs.map CFun.enc) :: .map i0 :: .map i1 :: kRules k
structure KT (c:Core) (k i0 i1:Nat) (X A:Int → Option Int) (S:Sg):Prop where
 hk:S.ob k=some (.row (kCells c k i0 i1))
 h0:S.ob i0=some (.map (.int .i64) (tyM X))
 h1:S.ob i1=some (.map (.int .i64) (tyM A))
 kl:k < S.nx
 l0:i0 < S.nx
 l1:i1 < S.nx
 ne:i0 ≠ i1
 k0:k ≠ i0
 k1:k ≠ i1
theorem KT.at {c:Core} {k i0 i1:Nat} {X A:Int → Option Int} {S:Sg} (h:KT c k i0 i1 X A S) (w:Bool):S.ob (if w then i1 else i0)=some (.map (.int .i64) (tyM (if w then A else X))):=by
 cases w
 ·exact h.h0
 exact h.h1
theorem KT.put {c:Core} {k i0 i1:Nat} {X A X' A':Int → Option Int} {S S':Sg} {w:Bool} {Y:Int → Option Int} (h:KT c k i0 i1 X A S) (hx:X'=if w=false then Y else X) (ha:A'=if w=true then Y else A)
 (e1:S'.ob (if w then i1 else i0)=some (.map (.int .i64) (tyM Y))) (e2:∀ j,j < S.nx → j=k ∨ j=(if w then i0 else i1) → S'.ob j=S.ob j) (e3:S.nx ≤ S'.nx):KT c k i0 i1 X' A' S':=by
 subst hx ha
 have hk:=(e2 k h.kl (.inl rfl)).trans h.hk
 have:=h.kl
 have:=h.l0
 have:=h.l1
 cases w with
 | true=>exact ⟨hk,(e2 i0 h.l0 (.inr rfl)).trans h.h0,e1,by omega,by omega,by omega,h.ne,h.k0,h.k1⟩
 | false=>exact ⟨hk,e1,(e2 i1 h.l1 (.inr rfl)).trans h.h1,by omega,by omega,by omega,h.ne,h.k0,h.k1⟩
theorem KT.set {c:Core} {k i0 i1:Nat} {X A:Int → Option Int} {S:Sg} (h:KT c k i0 i1 X A S) (w:Bool) (Y:Int → Option Int):KT c k i0 i1 (if w=false then Y else X) (if w=true then Y else A) (S.set (if w then i1 else i0) (.map (.int .i64) (tyM Y))):=by
 refine h.put (w:=w) (Y:=Y) rfl rfl set_ob (fun j _ hj=>set_ne ?_) (Nat.le_refl _)
 cases w
 ·rcases hj with hj | hj <;> subst hj <;> simp only [Bool.false_eq_true,if_false]
  exact h.k0
  exact Ne.symm h.ne
 rcases hj with hj | hj <;> subst hj <;> simp only [if_true]
 exact h.k1
 exact h.ne
theorem KT.keep {c:Core} {k i0 i1:Nat} {X A:Int → Option Int} {S S':Sg} {Z:Nat → Prop} (h:KT c k i0 i1 X A S) (q:Chg Z S S') (hk:¬ Z k) (h0:¬ Z i0) (h1:¬ Z i1):KT c k i0 i1 X A S' :=
 ⟨(q.ob k h.kl hk).trans h.hk,(q.ob i0 h.l0 h0).trans h.h0,(q.ob i1 h.l1 h1).trans h.h1,Nat.lt_of_lt_of_le h.kl q.nx,Nat.lt_of_lt_of_le h.l0 q.nx,Nat.lt_of_lt_of_le h.l1 q.nx,h.ne,h.k0,h.k1⟩
structure EB (g0:Nat) (c:Core) (k bk ba i0 i1:Nat) (X A:Int → Option Int) (ad:List Old) (S:Sg):Prop where
 hB:S.ob bk=some (.row [.ptr k 0])
 hA:∃ o,S.ob ba=some (.row [.slice o 4 (ad.map encO)]) ∧ CanG g0 o S
 hK:KT c k i0 i1 X A S
 bl:bk < S.nx
 al:ba < S.nx
 ba':bk ≠ ba
 bkk:bk ≠ k
 b0:bk ≠ i0
 b1:bk ≠ i1
 ak:ba ≠ k
 a0:ba ≠ i0
 a1:ba ≠ i1
theorem EB.more {g0:Nat} {c:Core} {k bk ba i0 i1:Nat} {X A:Int → Option Int} {ad:List Old} {S S3:Sg} {w:Bool} {a t:Int} {g:Nat} (h:EB g0 c k bk ba i0 i1 X A ad S)
 (f1:S3.ob=upd S.ob ba (some (.row [.slice (.gt g) 4 (ad.map encO ++ [encO (w,a,(if w then A else X) a)])]))) (f2:S3.nx=S.nx) (f3:g < S3.gn) (f4:S3.gl g=true) (f5:g0 ≤ g) :
 EB g0 c k bk ba i0 i1 (if w=false then bindT X a t else X) (if w=true then bindT A a t else A) (ad ++ [(w,a,(if w then A else X) a)]) (S3.set (if w then i1 else i0) (.map (.int .i64) (tyM (bindT (if w then A else X) a t)))):=by
 have ho:∀ j,j ≠ ba → S3.ob j=S.ob j:=fun j hj=>by rw [f1,upd_ne _ _ hj]
 have hw:∀ j,j ≠ i0 → j ≠ i1 → (S3.set (if w then i1 else i0) (.map (.int .i64) (tyM (bindT (if w then A else X) a t)))).ob j=S3.ob j:=fun j h0 h1=>set_ne (by cases w;exact h0;exact h1)
 have hK3:KT c k i0 i1 X A S3:=⟨(ho k (Ne.symm h.ak)).trans h.hK.hk,(ho i0 (Ne.symm h.a0)).trans h.hK.h0,(ho i1 (Ne.symm h.a1)).trans h.hK.h1,by rw [f2];exact h.hK.kl,by rw [f2];exact h.hK.l0,by rw [f2];exact h.hK.l1,h.hK.ne,h.hK.k0,h.hK.k1⟩
 refine ⟨?_,⟨.gt g,?_,.inr ⟨g,rfl,f4,f3,f5⟩⟩,?_,by show bk < S3.nx;rw [f2];exact h.bl,by show ba < S3.nx;rw [f2];exact h.al,h.ba',h.bkk,h.b0,h.b1,h.ak,h.a0,h.a1⟩
 ·rw [hw bk h.b0 h.b1,ho bk h.ba'];exact h.hB
 ·rw [hw ba h.a0 h.a1,f1,upd_same,List.map_append];rfl
 have q:=hK3.set w (bindT (if w then A else X) a t)
 cases w
 ·exact q
 exact q
theorem EB.chg {c:Core} {k bk ba i0 i1:Nat} {X A:Int → Option Int} {ad:List Old} {S0 S S3:Sg} {w:Bool} {o y:AObj} (h:EB S0.gn c k bk ba i0 i1 X A ad S) (h0:Chg (fun j=>j=ba ∨ j=i0 ∨ j=i1) S0 S)
 (f1:S3.ob=upd S.ob ba (some y)) (f2:S3.nx=S.nx) (f3:S.gn ≤ S3.gn) (f4:∀ g,g < S0.gn → S3.gl g=S.gl g) (f5:S3.Q=S.Q):Chg (fun j=>j=ba ∨ j=i0 ∨ j=i1) S0 (S3.set (if w then i1 else i0) o):=by
 refine ⟨by have:=h0.nx;show S0.nx ≤ S3.nx;omega,fun j hj hx=>?_,by have:=h0.gn;show S0.gn ≤ S3.gn;omega,fun g hg=>(f4 g hg).trans (h0.gl g hg),f5.trans h0.Q⟩
 rw [set_ne,f1,upd_ne _ _ (fun e=>hx (.inl e))]
 ·exact h0.ob j hj hx
 intro e
 cases w
 ·exact hx (.inr (.inl e))
 exact hx (.inr (.inr e))
theorem EB.fin {g0:Nat} {c:Core} {k bk ba i0 i1:Nat} {X A:Int → Option Int} {ad:List Old} {S:Sg} {vars:List Int} {as:List Arg} {i:Nat} {a:Int} {x:Arg} (hd:vars.drop i=a :: vars.drop (i + 1)) (hx:as.drop i=x :: as.drop (i + 1))
 (h:EB g0 c k bk ba i0 i1 (bindsT false (if x.co=false then bindT X a x.ty else X) (vars.drop (i + 1)) (as.drop (i + 1))) (bindsT true (if x.co=true then bindT A a x.ty else A) (vars.drop (i + 1)) (as.drop (i + 1)))
   (ad ++ [(x.co,a,(if x.co=true then A else X) a)] ++ olds (if x.co=false then bindT X a x.ty else X) (if x.co=true then bindT A a x.ty else A) (vars.drop (i + 1)) (as.drop (i + 1))) S) :
 EB g0 c k bk ba i0 i1 (bindsT false X (vars.drop i) (as.drop i)) (bindsT true A (vars.drop i) (as.drop i)) (ad ++ olds X A (vars.drop i) (as.drop i)) S:=by
 rw [hd,hx]
 simp only [bindsT,olds]
 rw [List.append_assoc] at h
 exact h
theorem bind_l {bk ba i0 i1:Nat} {S0:Sg} (c:Core) (vars:List Int) (as:List Arg) (hl:vars.length ≤ as.length) (k:Nat) (X A:Int → Option Int) (ad:List Old) (i:Nat) (hi:i ≤ vars.length) (hs:vars.length ≤ 2 ^ 40) {n:Nat} {v:Nat → Bool} {D:List (Nat × List AV)} {S:Sg} {Q:Ex → Fr → Prop}
 (had:ad.length ≤ i) (hE:EB S0.gn c k bk ba i0 i1 X A ad S) (hc0:Chg (fun j=>j=ba ∨ j=i0 ∨ j=i1) S0 S)
 (hX:∀ j S' n' v',EB S0.gn c k bk ba i0 i1 (bindsT false X (vars.drop i) (as.drop i)) (bindsT true A (vars.drop i) (as.drop i)) (ad ++ olds X A (vars.drop i) (as.drop i)) S' → Chg (fun j=>j=ba ∨ j=i0 ∨ j=i1) S0 S' → Q (.exit 0) ⟨uv (uv (uv (uv (uv (uv (uv e0 16 (B false)) 15 (I j)) 14 (I (vars.map I).length)) 13 (.slice .none 1 (vars.map I))) 7 (.ptr ba 0)) 3 (.ptr bk 0)) 2 (encArgs as),(fun _=>none),n',v',D,S'⟩):EX (callL p) (.loop F43_l1) ⟨uv (uv (uv (uv (uv (uv e0 15 (I i)) 14 (I (vars.map I).length)) 13 (.slice .none 1 (vars.map I))) 7 (.ptr ba 0)) 3 (.ptr bk 0)) 2 (encArgs as),(fun _=>none),n,v,D,S⟩ Q:=by
 refine eloop (er (qp J (qb ?_)))
 rintro (_ | _) h1
 ·refine qn (kq7 J) kn (eseq (ecF J (eexit (sqx ?_))))
  exact hX _ _ _ _ (by rw [List.drop_eq_nil_of_le (by simp at h1 ⊢;omega)];simpa [bindsT,olds] using hE) hc0
 refine qn (kq7 J) kn (eseq (ecT J (eskip (sqn (eseq (eblock (er (qp J ?_))))))))
 have hlt:i < vars.length:=by simpa using h1
 obtain ⟨a,ha⟩:=get_of_lt hlt
 have hd:=drop_cons ha
 refine hia (y:=I a) rfl rfl (by omega) (by simp [ha]) rfl (qp rfl (qp rfl (qp rfl (qk (kc rfl (kc rfl (kc rfl (kc rfl (kc rfl (kc rfl (kc rfl (kc rfl kn)))))))) kn (sqn (eseq (ereg (qp rfl (qp rfl ?_)))))))))
 obtain ⟨x,hx⟩:=get_of_lt (l:=as) (i:=i) (by omega)
 have hx2:=drop_cons hx
 refine hia (y:=Arg.enc x) rfl rfl (by omega) (by simp [hx]) rfl (qp rfl (qp rfl (hcall rfl rfl rfl (kside_c _ x.co) ?_)))
 rintro _ _ ⟨rfl,hq⟩
 obtain rfl:=hq.symm
 refine qp J (qn (kq9 J) kn (er (hldo J hE.hB J ?_)))
 refine pq3 J ?_
 refine qp (t:=.val (.ptr k (0 + 2 + (sideOf x.co).toNat * 1))) (by cases x.co <;> rfl) ?_
 refine hldo rfl hE.hK.hk (y:=.map (if x.co then i1 else i0)) (by cases x.co <;> rfl) ?_
 refine qp rfl (hlk2 (m:=tyM (if x.co then A else X)) rfl rfl rfl (hE.hK.at x.co) ?_)
 rw [tyM_get,tyM_some]
 refine pq5 J (qn (kq11 J) kn (er ?_))
 obtain ⟨o,hA,hcan⟩:=hE.hA
 refine hldo J hA J ?_
 refine qp rfl (qp rfl (qp rfl (qp rfl (hbuild rfl rfl (lc rfl (lc rfl (lc rfl (lc rfl (ln rfl))))) (hbsl rfl rfl (lc rfl (ln rfl)) (hapO (g0:=S0.gn) rfl rfl hcan (by simp) (by simp;omega) rfl ?_))))))
 intro v' S2 hv1 hv2 e1 e2 e3 e4 e5
 refine hstT rfl rfl (by rw [e1];exact hA) (by simp) hv1 rfl ?_
 intro v'' S3 f1 f2 f3 f4 f5 f6 f7
 have ho:∀ j,j ≠ ba → S3.ob j=S.ob j:=fun j hj=>by rw [f1,upd_ne _ _ hj,e1]
 refine qn (kq9 J) kn (ereg (hldo J ((ho bk hE.ba').trans hE.hB) J ?_))
 refine pq3 J ?_
 refine qp (t:=.val (.ptr k (0 + 2 + (sideOf x.co).toNat * 1))) (by cases x.co <;> rfl) ?_
 refine hldo rfl ((ho k (Ne.symm hE.ak)).trans hE.hK.hk) (y:=.map (if x.co then i1 else i0)) (by cases x.co <;> rfl) ?_
 refine qp rfl (qp rfl (qp rfl (hia (y:=Arg.enc x) rfl rfl (by omega) (by simp [hx]) rfl (qp rfl (qp rfl (hmu (m:=tyM (if x.co then A else X)) rfl rfl rfl rfl ((ho _ (by cases x.co;exact Ne.symm hE.a0;exact Ne.symm hE.a1)).trans (hE.hK.at x.co)) ?_))))))
 rw [show (AV.lit (.int .i64 x.ty)).er=I x.ty from rfl,tyM_set]
 refine qk (kq6 J) kn (bqn (sqn (ereg (hadd J J (i64w (by omega)) (qp J (qk (kq6 J) kn ?_))))))
 have hg:=hc0.gn
 have f1':S3.ob=upd S.ob ba (some (.row [.slice (.gt S2.gn) 4 (ad.map encO ++ [encO (x.co,a,(if x.co=true then A else X) a)])])):=by rw [f1,e1];rfl
 exact bind_l c vars as hl k _ _ _ (i + 1) (by omega) hs (by simp;omega) (hE.more f1' (f2.trans e2) (by omega) f4 (by omega)) (hE.chg (w:=x.co) hc0 f1' (f2.trans e2) (by omega) (fun g hg3=>(f5 g (by omega)).trans (e4 g hg3)) (f6.trans e5)) (fun j S' n' v' h c2=>hX j S' n' v' (EB.fin hd hx2 h) c2)
termination_by vars.length - i
decreasing_by all_goals omega
theorem eb_init {c:Core} {k i0 i1:Nat} {X A:Int → Option Int} (s:Sg) (hK:KT c k i0 i1 X A s):EB s.gn c k s.nx (s.new (.row [.ptr k 0])).nx i0 i1 X A [] ((s.new (.row [.ptr k 0])).new (.row [.slice .full 4 []])):=by
 have e:(s.new (.row [.ptr k 0])).nx=s.nx + 1:=rfl
 have e2:((s.new (.row [.ptr k 0])).new (.row [.slice .full 4 []])).nx=s.nx + 2:=rfl
 have l0:=hK.l0
 have l1:=hK.l1
 have lk:=hK.kl
 have hl:∀ j,j < s.nx → ((s.new (.row [.ptr k 0])).new (.row [.slice .full 4 []])).ob j=s.ob j:=fun j hj=>by rw [new_lt (by omega),new_lt hj]
 refine ⟨?_,⟨.full,?_,.inl rfl⟩,⟨?_,?_,?_,by omega,by omega,by omega,hK.ne,hK.k0,hK.k1⟩,by omega,by omega,by omega,by omega,by omega,by omega,by omega,by omega,by omega⟩
 ·rw [new_lt (by omega)];exact new_ob
 ·rw [new_ob];rfl
 ·rw [hl k lk];exact hK.hk
 ·rw [hl i0 l0];exact hK.h0
 rw [hl i1 l1];exact hK.h1
theorem bind_c (s:Sg) (c:Core) (k i0 i1:Nat) (X A:Int → Option Int) (vars:List Int) (as:List Arg) (hl:vars.length ≤ as.length) (hs:vars.length ≤ 2 ^ 40) (hK:KT c k i0 i1 X A s):HC p N43_ [.ptr k 0,ints vars,encArgs as] s (fun r s'=>∃ bk ba,r=[.fn N67_ [] [.ptr ba 0,.ptr bk 0]] ∧ EB s.gn c k bk ba i0 i1 (bindsT false X vars as) (bindsT true A vars as) (olds X A vars as) s' ∧ Chg (IXA i0 i1) s s' ∧ s.nx ≤ bk ∧ s.nx ≤ ba):=by
 refine hcf J f43_ J ?_
 simp only [chainOf]
 refine er (hboxo J (lq1 J) (qp J (qn (kq3 J) kn (er (hall (qn (kq4 J) kn (eseq (er (pq3 J (qn (kq6 J) kn (eblock (bind_l c vars as hl k X A [] 0 (by omega) hs (by simp) (eb_init s hK) (Chg.new (Chg.new (Chg.refl s))) ?_))))))))))))
 intro j S1 n1 v1 hE hc
 refine bqx (sqn (er (pq2 J (qn (kq1 J) kn (eret (fqr J ?_))))))
 exact ⟨_,_,rfl,hE,hc.mono (fun i hi h=>by rcases h with h | h;exact absurd h (by show i ≠ s.nx + 1;omega);exact h),Nat.le_refl _,Nat.le_succ _⟩
theorem undo_l {bk ba i0 i1:Nat} {o:Own} (c:Core) (ad:List Old) (k:Nat) (X A:Int → Option Int) (m:Nat) (hm:m ≤ ad.length) (hz:ad.length ≤ 2 ^ 40) {n:Nat} {v:Nat → Bool} {D:List (Nat × List AV)} {S:Sg} {Q:Ex → Fr → Prop}
 (hK:KT c k i0 i1 X A S) (hB:S.ob bk=some (.row [.ptr k 0])) (hA:S.ob ba=some (.row [.slice o 4 (ad.map encO)])) (hn:ba ≠ i0 ∧ ba ≠ i1 ∧ bk ≠ i0 ∧ bk ≠ i1)
 (hX:∀ S',KT c k i0 i1 (undo false X (ad.take m)) (undo true A (ad.take m)) S' → Chg (IXA i0 i1) S S' → Q (.exit 0) ⟨uv (uv (uv (uv e0 8 (B false)) 2 (I (-1))) 1 (.ptr bk 0)) 0 (.ptr ba 0),(fun _=>none),n,v,D,S'⟩):EX (callL p) (.loop F67_l1) ⟨uv (uv (uv e0 2 (I ((m:Int) - 1))) 1 (.ptr bk 0)) 0 (.ptr ba 0),(fun _=>none),n,v,D,S⟩ Q:=by
 refine eloop (eseq (er (pq2 J (qb ?_))))
 rintro (_ | _) h1
 refine qn (kq4 J) kn (ecF J (eexit (sqx ?_)))
 have hm0:m=0:=by simp at h1;omega
 subst hm0
 exact hX S hK (Chg.refl _)
 refine qn (kq4 J) kn (ecT J (eskip (sqn (eseq (eblock (er ?_))))))
 obtain ⟨m',rfl⟩:∃ m',m=m' + 1:=⟨m - 1,by simp at h1;omega⟩
 obtain ⟨⟨w,x,q⟩,ha⟩:=get_of_lt (l:=ad) (i:=m') (by omega)
 refine hldo J hA J ?_
 refine qp J ?_
 refine hia (y:=encO (w,x,q)) rfl rfl (by omega) (by rw [Lgm,show ((m' + 1:Nat):Int) - 1=(m':Int) from by omega,Int.toNat_natCast,ha];rfl) rfl ?_
 refine hlda J J (lq4 J) (hal (dq8 J) (hstl J J J J (Nlb J) (lq4 J) (qn (kq4 J) (kq1 J) (er (hldo J hB J ?_)))))
 refine pq4 J ?_
 refine qp (t:=.val (.ptr k (0 + 2 + (sideOf w).toNat * 1))) (by cases w <;> rfl) ?_
 refine hldo rfl hK.hk (y:=.map (if w then i1 else i0)) (by cases w <;> rfl) ?_
 refine qp rfl (qp rfl (hdl (m:=tyM (if w then A else X)) rfl rfl rfl (hK.at w) ?_))
 rw [tyM_del]
 refine qn (kq4 J) (kq1 J) (er (pq2 J (qb ?_)))
 rintro (_ | _) h2
 refine qn (kq5 J) (kq1 J) (ecF J (eskip (bqn (sqn (ereg ?_)))))
 rotate_left
 refine qn (kq5 rfl) (kq1 rfl) (ecT rfl (ereg (hldo rfl (by rw [set_ne (by cases w;exact hn.2.2.1;exact hn.2.2.2)];exact hB) rfl ?_)))
 refine pq4 J ?_
 refine qp (t:=.val (.ptr k (0 + 2 + (sideOf w).toNat * 1))) (by cases w <;> rfl) ?_
 refine hldo rfl (by rw [set_ne (by cases w;exact hK.k0;exact hK.k1)];exact hK.hk) (y:=.map (if w then i1 else i0)) (by cases w <;> rfl) ?_
 refine qp rfl (qp rfl (qp rfl (qp rfl (hmu (m:=tyM (setT (if w then A else X) x none)) rfl rfl rfl rfl set_ob ?_))))
 rw [show (AV.lit (.int .i64 (q.getD 0))).er=I (q.getD 0) from rfl,tyM_set,bindT,setT_twice]
 refine qk (kq3 J) kn (bqn (sqn (ereg ?_)))
 rotate_left
 all_goals
  generalize hS1:Sg.set _ _ _=S1
  replace hS1:=hS1.symm
  refine qp rfl (hsub (r:=(m':Int) - 1) rfl rfl (by rw [i64w (by omega)];omega) (qp rfl (qk (kc rfl (kc rfl (kc rfl kn))) kn ?_)))
  have et:ad.take (m' + 1)=ad.take m' ++ [(w,x,q)]:=by simp [List.take_add_one,ha]
  have hu:∀ (w':Bool) (Y:Int → Option Int),undo w' Y (ad.take (m' + 1))=undo w' (if w=w' then setT Y x q else Y) (ad.take m'):=fun w' Y=>by rw [et];simp [undo]
  rw [hu,hu] at hX
  have hc1:Chg (IXA i0 i1) S S1:=by
   rw [hS1]
   first
   | exact (((Chg.refl S).set (fun _=>by cases w;exact .inl rfl;exact .inr rfl))).set (fun _=>by cases w;exact .inl rfl;exact .inr rfl)
   | exact ((Chg.refl S).set (fun _=>by cases w;exact .inl rfl;exact .inr rfl))
  have hw:∀ j,j ≠ i0 → j ≠ i1 → S1.ob j=S.ob j:=fun j h0 h1=>by
   rw [hS1]
   first
   | rw [set_ne (by cases w;exact h0;exact h1),set_ne (by cases w;exact h0;exact h1)]
   | rw [set_ne (by cases w;exact h0;exact h1)]
  have hK1:KT c k i0 i1 (if w=false then setT X x q else X) (if w=true then setT A x q else A) S1:=by
   rw [hS1]
   first
   | (have g:q.isSome=true:=by assumption
      obtain ⟨t,rfl⟩:=Option.isSome_iff_exists.1 g
      have z:=(hK.set w (setT (if w then A else X) x none)).set w (setT (if w then A else X) x (some t))
      cases w
      ·exact z
      exact z)
   | (have g:q.isSome=false:=by assumption
      cases q with
      | some t=>cases g
      | none =>
        have z:=hK.set w (setT (if w then A else X) x none)
        cases w
        ·exact z
        exact z)
  exact undo_l c ad k _ _ m' (by omega) hz hK1 ((hw bk hn.2.2.1 hn.2.2.2).trans hB) ((hw ba hn.1 hn.2.1).trans hA) hn (fun S' h c2=>hX S' (by simpa only [eq_comm] using h) (hc1.trans c2))
termination_by m
decreasing_by all_goals omega
theorem undo_c (s:Sg) (c:Core) (k bk ba i0 i1:Nat) (X A:Int → Option Int) (o:Own) (ad:List Old) (hz:ad.length ≤ 2 ^ 40) (hK:KT c k i0 i1 X A s) (hB:s.ob bk=some (.row [.ptr k 0])) (hA:s.ob ba=some (.row [.slice o 4 (ad.map encO)])) (hn:ba ≠ i0 ∧ ba ≠ i1 ∧ bk ≠ i0 ∧ bk ≠ i1):HC p N67_ [.ptr ba 0,.ptr bk 0] s (fun r s'=>r=[] ∧ KT c k i0 i1 (undo false X ad) (undo true A ad) s' ∧ Chg (IXA i0 i1) s s'):=by
 refine hcf J f67_ J ?_
 simp only [chainOf]
 refine er (hldo J hA J ?_)
 refine qp rfl (hsub (r:=(ad.length:Int) - 1) rfl rfl (by simp;rw [i64w (by omega)]) (qp rfl (qk (kc rfl (kc rfl (kc rfl kn))) kn (sqn (eblock (undo_l c ad k X A ad.length (Nat.le_refl _) hz hK hB hA hn ?_))))))
 intro S1 hK1 hc1
 rw [List.take_length] at hK1
 refine bqx (fqn J ?_)
 exact ⟨rfl,hK1,hc1⟩
def xtorTys (ds:List Decl) (ty n:Int):List Int:=match declAt ds ty with
 | some d=>(match d.xtors[n.toNat]? with
   | some x=>x.args.map Arg.ty
   | none=>[])
 | none=>[]
def xtorsOf (ds:List Decl) (ty:Int):List Xtor:=match declAt ds ty with
 | some d=>d.xtors
 | none=>[]
def parTys (fs:List CFun) (n:Int):List Int:=match fs[n.toNat]? with
 | some g=>g.params.map Arg.ty
 | none=>[]
mutual
def tN (ds:List Decl) (fs:List CFun):Node → (Int → Option Int) → (Int → Option Int) → Option Int
 | .mk op n ty args brs,X,A=>if op=0 then X n else if op=5 then A n else if op=1 then some 0
   else if op=2 ∨ op=6 then (if tNs ds fs args (xtorTys ds ty n) X A=true then some ty else none)
   else if op=3 ∨ op=7 then (if tNs ds fs args [0] (if op=7 then bindT X n ty else X) (if op=3 then bindT A n ty else A)=true then some ty else none)
   else if op=4 ∨ op=8 then (if tBs ds fs brs (xtorsOf ds ty) X A=true then some ty else none)
   else if op=9 then (if tNs ds fs args [ty,ty] X A=true then some 0 else none)
   else if op=13 then (if tNs ds fs args (parTys fs n) X A=true then some 0 else none)
   else (if tNs ds fs args [0,0,0] X A=true then some 0 else none)
def tNs (ds:List Decl) (fs:List CFun):List Node → List Int → (Int → Option Int) → (Int → Option Int) → Bool
 | [],_,_,_=>true
 | a :: as,w :: ws,X,A=>decide (tN ds fs a X A=some w) && tNs ds fs as ws X A
 | _ :: _,[],_,_=>false
def tB (ds:List Decl) (fs:List CFun):Br → Xtor → (Int → Option Int) → (Int → Option Int) → Bool
 | .mk vars _ body,x,X,A=>decide (tN ds fs body (bindsT false X vars x.args) (bindsT true A vars x.args)=some 0)
def tBs (ds:List Decl) (fs:List CFun):List Br → List Xtor → (Int → Option Int) → (Int → Option Int) → Bool
 | b :: bs,x :: xs,X,A=>tB ds fs b x X A && tBs ds fs bs xs X A
 | _,_,_,_=>true
end
theorem tN_eq (ds:List Decl) (fs:List CFun) (a:Node) (X A:Int → Option Int):tN ds fs a X A=if a.op=0 then X a.n else if a.op=5 then A a.n else if a.op=1 then some 0
 else if a.op=2 ∨ a.op=6 then (if tNs ds fs a.args (xtorTys ds a.ty a.n) X A=true then some a.ty else none)
 else if a.op=3 ∨ a.op=7 then (if tNs ds fs a.args [0] (if a.op=7 then bindT X a.n a.ty else X) (if a.op=3 then bindT A a.n a.ty else A)=true then some a.ty else none)
 else if a.op=4 ∨ a.op=8 then (if tBs ds fs a.brs (xtorsOf ds a.ty) X A=true then some a.ty else none)
 else if a.op=9 then (if tNs ds fs a.args [a.ty,a.ty] X A=true then some 0 else none)
 else if a.op=13 then (if tNs ds fs a.args (parTys fs a.n) X A=true then some 0 else none)
 else (if tNs ds fs a.args [0,0,0] X A=true then some 0 else none):=by
 cases a
 rw [tN]
 rfl
theorem tB_eq (ds:List Decl) (fs:List CFun) (b:Br) (x:Xtor) (X A:Int → Option Int):tB ds fs b x X A=decide (tN ds fs b.body (bindsT false X b.vars x.args) (bindsT true A b.vars x.args)=some 0):=by
 cases b
 rw [tB]
 rfl
theorem vNs_mem {ds:List Decl} {fs:List CFun}:∀ {l:List Node} {ws:List Int} {X A:Int → Bool},vNs ds fs l ws X A=true → ∀ b ∈ l,vN ds fs b X A=true
 | [],_,_,_,_,b,hb=>by cases hb
 | a :: l,[],_,_,h,_,_=>by simp [vNs] at h
 | a :: l,w :: ws,X,A,h,b,hb=>by
   simp only [vNs,Bae] at h
   cases hb with
   | head=>exact h.1.2
   | tail _ hb=>exact vNs_mem h.2 b hb
def TPost (c:Core) (k i0 i1:Nat) (X A:Int → Option Int) (s:Sg) (o:Option Int) (r:List AV) (s':Sg):Prop :=
 ∃ t b,r=[I t,B b] ∧ (if b=true then some t else none)=o ∧ KT c k i0 i1 X A s' ∧ Chg (IXA i0 i1) s s'
def TC (c:Core) (a:Node):Prop:=∀ (s:Sg) (k i0 i1:Nat) (X A:Int → Option Int),KT c k i0 i1 X A s → vN c.decls c.funs a (dom X) (dom A)=true →
 HC p N18_ [.ptr k 0,.agg a.cs] s (TPost c k i0 i1 X A s (tN c.decls c.funs a X A))
theorem olds_len:∀ (vars:List Int) (as:List Arg) (X A:Int → Option Int),(olds X A vars as).length ≤ vars.length
 | [],_,_,_=>by simp [olds]
 | _ :: _,[],_,_=>by simp [olds]
 | v :: vs,a :: as,X,A=>by
   rw [olds,List.length_cons,List.length_cons]
   have:=olds_len vs as (if a.co=false then bindT X v a.ty else X) (if a.co=true then bindT A v a.ty else A)
   omega
theorem kl_c {c:Core} {k bk ba i0 i1:Nat} {X A:Int → Option Int} {vars:List Int} {as:List Arg} {s S1 S2:Sg} (hK:KT c k i0 i1 X A s) (hE:EB s.gn c k bk ba i0 i1 (bindsT false X vars as) (bindsT true A vars as) (olds X A vars as) S1) (hc1:Chg (IXA i0 i1) s S1)
 (hK2:KT c k i0 i1 (bindsT false X vars as) (bindsT true A vars as) S2) (hc2:Chg (IXA i0 i1) S1 S2) (hv:vars.length ≤ 2 ^ 40):HC p N67_ [.ptr ba 0,.ptr bk 0] S2 (fun r S3=>r=[] ∧ KT c k i0 i1 X A S3 ∧ Chg (IXA i0 i1) s S3):=by
 have nb:¬ IXA i0 i1 bk:=fun h=>by rcases h with h | h;exact hE.b0 h;exact hE.b1 h
 have na:¬ IXA i0 i1 ba:=fun h=>by rcases h with h | h;exact hE.a0 h;exact hE.a1 h
 obtain ⟨o,hA,_⟩:=hE.hA
 have hlen:=olds_len vars as X A
 refine (undo_c S2 c k bk ba i0 i1 _ _ o (olds X A vars as) (by omega) hK2 ((hc2.ob bk hE.bl nb).trans hE.hB) ((hc2.ob ba hE.al na).trans hA) ⟨hE.a0,hE.a1,hE.b0,hE.b1⟩).mono ?_
 rintro r S3 ⟨rfl,hS3,hc3⟩
 have d0:=undo_olds false vars as X A
 have d1:=undo_olds true vars as X A
 simp only [if_true,Bool.false_eq_true,if_false] at d0 d1
 rw [d0,d1] at hS3
 exact ⟨rfl,hS3,hc1.trans (hc2.trans hc3)⟩
theorem are_l {k i0 i1:Nat} (c:Core) (l:List Node) (ws:List Int) (X A:Int → Option Int) (hlen:l.length ≤ ws.length) (H:∀ b ∈ l,TC c b) (hv:∀ b ∈ l,vN c.decls c.funs b (dom X) (dom A)=true) (i:Nat) (hi:i ≤ l.length) (hs:l.length ≤ 2 ^ 40) {n:Nat} {v:Nat → Bool} {D:List (Nat × List AV)} {S:Sg} {Q:Ex → Fr → Prop}
 (hK:KT c k i0 i1 X A S) (hX:∀ j S',tNs c.decls c.funs (l.drop i) (ws.drop i) X A=true → KT c k i0 i1 X A S' → Chg (IXA i0 i1) S S' → Q (.exit 0) ⟨uv (uv (uv (uv (uv (uv e0 14 (B false)) 13 (I j)) 12 (I (l.map Node.enc).length)) 11 (.slice .none 5 (l.map Node.enc))) 2 (ints ws)) 0 (.ptr k 0),(fun _=>none),n,v,D,S'⟩)
 (hR:∀ S',tNs c.decls c.funs (l.drop i) (ws.drop i) X A=false → KT c k i0 i1 X A S' → Chg (IXA i0 i1) S S' → Q .ret ⟨uv e0 6 (B false),(fun _=>none),n,v,D,S'⟩):EX (callL p) (.loop F57_l1) ⟨uv (uv (uv (uv (uv e0 13 (I i)) 12 (I (l.map Node.enc).length)) 11 (.slice .none 5 (l.map Node.enc))) 2 (ints ws)) 0 (.ptr k 0),(fun _=>none),n,v,D,S⟩ Q:=by
 refine eloop (er (qp J (qb ?_)))
 rintro (_ | _) h1
 refine qn (kq6 J) kn (eseq (ecF J (eexit (sqx ?_))))
 exact hX _ _ (by rw [List.drop_eq_nil_of_le (by simp at h1 ⊢;omega),tNs]) hK (Chg.refl _)
 refine qn (kq6 J) kn (eseq (ecT J (eskip (sqn (eseq (eblock (er (qp J ?_))))))))
 have hlt:i < l.length:=by simpa using h1
 obtain ⟨a,ha⟩:=get_of_lt hlt
 have hd:=drop_cons ha
 refine hia (y:=.agg a.cs) rfl rfl (by omega) (by simp [ha,Node.enc_eq,Br.enc_eq,CFun.enc_eq]) rfl (hlda rfl rfl (lc rfl (lc rfl (lc rfl (lc rfl (lc rfl (ln rfl)))))) (hal (dc (dc (dc (dc (dc (dc (dc (dc (dc dn rfl) rfl) rfl) rfl) rfl) rfl) rfl) rfl) rfl) (qp rfl (hstl rfl rfl rfl rfl (Nlb rfl) (lc rfl (lc rfl (lc rfl (lc rfl (lc rfl (ln rfl)))))) (qk (kc rfl (kc rfl (kc rfl (kc rfl (kc rfl (kc rfl (kc rfl kn))))))) (kc rfl kn) (sqn (eseq (ereg (qp rfl (hlda rfl rfl (lc rfl (lc rfl (lc rfl (lc rfl (lc rfl (ln rfl)))))) (hcall rfl rfl rfl (H a (Lmg ha) _ k i0 i1 X A hK (hv a (Lmg ha))) ?_)))))))))))
 rintro _ S1 ⟨t,b,rfl,ho,hK1,hc1⟩
 refine pq3 J (qb ?_)
 rintro (_ | _) h2
 refine pq2 J (qn (kq8 J) kn (er (pq3 J (zq6 J (qp J (qn (kq6 J) kn (ecT J (er (qp J (qn (kq1 J) kn ?_))))))))))
 refine eret (bqr (sqr ?_))
 rotate_left
 refine pq2 J (qn (kq8 J) kn (er (pq3 J (qg J (qp J (qg J (qp J (qg J (qp J (qg J ?_))))))))))
 obtain ⟨w,hw⟩:=get_of_lt (l:=ws) (i:=i) (by omega)
 have hw2:=drop_cons hw
 refine hia (y:=I w) rfl rfl (by omega) (by simp [hw]) rfl (qg rfl (qp rfl (qg rfl (qp rfl (qb ?_)))))
 rintro (_ | _) h3
 refine qp J (qn (kq6 J) kn (ecF J (eskip (bqn (sqn (ereg (hadd J J (i64w (by omega)) (qp J (qk (kq5 J) kn ?_)))))))))
 have e:tNs c.decls c.funs (l.drop i) (ws.drop i) X A=tNs c.decls c.funs (l.drop (i + 1)) (ws.drop (i + 1)) X A:=by
  have g:b=true:=by assumption
  have g2:(!decide (t=w))=false:=by assumption
  subst g
  rw [hd,hw2,tNs,← ho]
  have g3:t=w:=by simpa using g2
  simp [g3]
 exact are_l c l ws X A hlen H hv (i + 1) (by omega) hs hK1 (fun j S' h k2 c2=>hX j S' (e.trans h) k2 (hc1.trans c2)) (fun S' h k2 c2=>hR S' (e.trans h) k2 (hc1.trans c2))
 refine qp J (qn (kq6 J) kn (ecT J (er (qp J (qn (kq1 J) kn (eret (bqr (sqr ?_))))))))
 rotate_left
 all_goals
  have e:tNs c.decls c.funs (l.drop i) (ws.drop i) X A=false:=by
   first
   | (have g:b=false:=by assumption
      subst g
      obtain ⟨w,hw⟩:=get_of_lt (l:=ws) (i:=i) (by omega)
      rw [hd,drop_cons hw,tNs,← ho]
      simp)
   | (have g:b=true:=by assumption
      have g2:(!decide (t=w))=true:=by assumption
      subst g
      have g3:¬ t=w:=by simpa using g2
      rw [hd,hw2,tNs,← ho]
      simp [g3])
  exact hR _ e hK1 hc1
termination_by l.length - i
decreasing_by all_goals omega
theorem are_c (s:Sg) (c:Core) (k i0 i1:Nat) (X A:Int → Option Int) (l:List Node) (ws:List Int) (hz:l.length ≤ 2 ^ 40) (hlen:l.length ≤ ws.length) (H:∀ b ∈ l,TC c b) (hv:∀ b ∈ l,vN c.decls c.funs b (dom X) (dom A)=true) (hK:KT c k i0 i1 X A s):HC p N57_ [.ptr k 0,SL 5 (l.map Node.enc),ints ws] s (fun r s'=>r=[B (tNs c.decls c.funs l ws X A)] ∧ KT c k i0 i1 X A s' ∧ Chg (IXA i0 i1) s s'):=by
 refine hcf J f57_ J ?_
 simp only [chainOf]
 refine er (qp J (qn (kq3 J) kn (eseq (er (pq3 J (qn (kq5 J) kn (eblock ?_)))))))
 refine are_l c l ws X A hlen H hv 0 (by omega) hz hK ?_ ?_
 ·intro j S1 hj hK1 hc1
  refine bqx (sqn (er (qp J (qn (kq1 J) kn (eret (fqr J ?_))))))
  have hj2:=hj
  rw [List.drop_zero,List.drop_zero] at hj2
  exact ⟨by rw [hj2];rfl,hK1,hc1⟩
 intro S1 hj hK1 hc1
 refine bqr (sqr (fqr J ?_))
 have hj2:=hj
 rw [List.drop_zero,List.drop_zero] at hj2
 exact ⟨by rw [hj2];rfl,hK1,hc1⟩
theorem kvar_c (s:Sg) (c:Core) (k i0 i1:Nat) (X A:Int → Option Int) (a:Node) (hz:a.sz ≤ 2 ^ 40) (H:∀ b ∈ a.args,TC c b) (H2:∀ b ∈ a.brs,TC c b.body) (hK:KT c k i0 i1 X A s) (hc:CoreSz c) (hv:vN c.decls c.funs a (dom X) (dom A)=true) (ho:a.op=0 ∨ a.op=5):HC p N31_ [.ptr k 0,.agg a.cs] s (fun r s'=>TPost c k i0 i1 X A s (tN c.decls c.funs a X A) r s'):=by
 have hza:a.args.length ≤ 2 ^ 40:=by have:=a.sz_args;omega
 refine hcf J f31_ J ?_
 simp only [chainOf]
 refine er (hbox (dq2 J) J (lq5 J) (pq2 J (qn (kq2 J) (kq1 J) (er (pq4 J (hcall J J J (kside_c _ (decide (a.op=5))) ?_))))))
 rintro _ _ ⟨rfl,hq⟩
 obtain rfl:=hq.symm
 refine pq2 J ?_
 refine qp (t:=.val (.ptr k (0 + 2 + (sideOf (decide (a.op=5))).toNat * 1))) (by cases decide (a.op=5) <;> rfl) ?_
 refine hldo rfl hK.hk (y:=.map (if decide (a.op=5) then i1 else i0)) (by cases decide (a.op=5) <;> rfl) ?_
 refine qp rfl (qp rfl (hlk2 (m:=tyM (if decide (a.op=5) then A else X)) rfl rfl rfl (hK.at (decide (a.op=5))) ?_))
 rw [tyM_get,tyM_some]
 refine pq5 J (qn (kq2 J) kn (er (pq4 J (qn (kq2 J) kn (eret (fqr J ?_))))))
 refine ⟨_,_,J,?_,hK,Chg.refl _⟩
 rw [tN_eq]
 rcases ho with h | h
 ·simp only [h]
  simp
  cases X a.n <;> rfl
 simp only [h]
 simp
 cases A a.n <;> rfl
theorem knum_c (s:Sg) (c:Core) (k i0 i1:Nat) (X A:Int → Option Int) (a:Node) (hz:a.sz ≤ 2 ^ 40) (H:∀ b ∈ a.args,TC c b) (H2:∀ b ∈ a.brs,TC c b.body) (hK:KT c k i0 i1 X A s) (hc:CoreSz c) (hv:vN c.decls c.funs a (dom X) (dom A)=true) (ho:a.op=1):HC p N32_ [.ptr k 0,.agg a.cs] s (fun r s'=>TPost c k i0 i1 X A s (tN c.decls c.funs a X A) r s'):=by
 refine hcf J f32_ J ?_
 simp only [chainOf]
 refine er (hbox (dq2 J) J (lq5 J) (pq2 J (qn kn kn (er (pq2 J (qn (kq2 J) kn (eret (fqr J ?_))))))))
 refine ⟨0,true,J,?_,hK,Chg.refl _⟩
 rw [tN_eq]
 simp [ho]
theorem args_of {ds:List Decl} {fs:List CFun} {a:Node} {X A:Int → Bool} (h:vN ds fs a X A=true) {want:List Int} {xs:List Xtor} (hh:headOf ds fs a.op a.n a.ty=some (want,xs)):a.args.length=want.length ∧ ∀ b ∈ a.args,vN ds fs b (if a.op=7 then addV X a.n else X) (if a.op=3 then addV A a.n else A)=true:=by
 obtain ⟨w,x,h1,h2,_⟩:=vN_some h
 rw [hh] at h1
 cases h1
 exact ⟨vNs_len h2,vNs_mem h2⟩
theorem args_of' {ds:List Decl} {fs:List CFun} {a:Node} {X A:Int → Bool} (h:vN ds fs a X A=true) (h3:a.op ≠ 3) (h7:a.op ≠ 7) {want:List Int} {xs:List Xtor} (hh:headOf ds fs a.op a.n a.ty=some (want,xs)):a.args.length=want.length ∧ ∀ b ∈ a.args,vN ds fs b X A=true:=by
 have:=args_of h hh
 rw [if_neg h3,if_neg h7] at this
 exact this
theorem head_of {ds:List Decl} {fs:List CFun} {a:Node} {X A:Int → Bool} (h:vN ds fs a X A=true):∃ want xs,headOf ds fs a.op a.n a.ty=some (want,xs):=by
 obtain ⟨w,x,h1,_⟩:=vN_some h
 exact ⟨w,x,h1⟩
theorem if_some {c:Prop} [Decidable c] {α:Type} {w:α} {r:α} (h:(if c then some w else none)=some r):c ∧ w=r:=by
 split at h
 ·exact ⟨‹_›,by cases h;rfl⟩
 cases h
theorem test_len {ds:List Decl} {fs:List CFun} {a:Node} {X A:Int → Bool} (h:vN ds fs a X A=true) (ho:a.op=10 ∨ a.op=11 ∨ a.op=12 ∨ a.op=14):a.args.length ≤ 3 ∧ ∀ b ∈ a.args,vN ds fs b X A=true:=by
 obtain ⟨w,x,hh⟩:=head_of h
 have q:=args_of' h (by omega) (by omega) hh
 refine ⟨?_,q.2⟩
 have hl:=q.1
 rcases ho with ho | ho | ho | ho
 ·rw [head_prim (decide_eq_true ho)] at hh;have:=(if_some hh).2;simp only [Pie] at this;rw [hl,← this.1];decide
 ·rw [head_ifz (decide_eq_true ho)] at hh;have:=(if_some hh).2;simp only [Pie] at this;rw [hl,← this.1];decide
 ·rw [head_emit (decide_eq_true ho)] at hh;have:=(if_some hh).2;simp only [Pie] at this;rw [hl,← this.1];decide
 rw [head_done (decide_eq_true ho)] at hh;have:=(if_some hh).2;simp only [Pie] at this;rw [hl,← this.1];decide
theorem cut_len {ds:List Decl} {fs:List CFun} {a:Node} {X A:Int → Bool} (h:vN ds fs a X A=true) (ho:a.op=9):a.args.length=2 ∧ ∀ b ∈ a.args,vN ds fs b X A=true:=by
 obtain ⟨w,x,hh⟩:=head_of h
 have q:=args_of' h (by omega) (by omega) hh
 refine ⟨?_,q.2⟩
 rw [head_cut (decide_eq_true ho)] at hh
 have:=(if_some hh).2
 simp only [Pie] at this
 rw [q.1,← this.1];rfl
theorem call_len {ds:List Decl} {fs:List CFun} {a:Node} {X A:Int → Bool} (h:vN ds fs a X A=true) (ho:a.op=13):∃ g,fs[a.n.toNat]?=some g ∧ 0 ≤ a.n ∧ a.args.length=g.params.length ∧ ∀ b ∈ a.args,vN ds fs b X A=true:=by
 obtain ⟨w,x,hh⟩:=head_of h
 have q:=args_of' h (by omega) (by omega) hh
 rw [head_call (decide_eq_true ho)] at hh
 split at hh
 ·rename_i hc
  simp only [Option.map_eq_some_iff,Pie] at hh
  obtain ⟨g,h1,h2,_⟩:=hh
  refine ⟨g,h1,hc.2,?_,q.2⟩
  rw [q.1,← h2,List.length_map]
 cases hh
theorem xtor_len {ds:List Decl} {fs:List CFun} {a:Node} {X A:Int → Bool} (h:vN ds fs a X A=true) (ho:a.op=2 ∨ a.op=6):∃ d x,declAt ds a.ty=some d ∧ 0 ≤ a.n ∧ d.xtors[a.n.toNat]?=some x ∧ a.args.length=x.args.length ∧ ∀ b ∈ a.args,vN ds fs b X A=true:=by
 obtain ⟨w,y,hh⟩:=head_of h
 have q:=args_of' h (by omega) (by omega) hh
 rw [head_xtor (decide_eq_true ho)] at hh
 split at hh
 ·rename_i d hd
  split at hh
  ·rename_i hc
   simp only [Option.map_eq_some_iff,Pie] at hh
   obtain ⟨x,h1,h2,_⟩:=hh
   refine ⟨d,x,hd,hc.2,h1,?_,q.2⟩
   rw [q.1,← h2,List.length_map]
  cases hh
 cases hh
theorem mu_len {ds:List Decl} {fs:List CFun} {a:Node} {X A:Int → Bool} (h:vN ds fs a X A=true) (ho:a.op=3 ∨ a.op=7):a.args.length=1 ∧ ∀ b ∈ a.args,vN ds fs b (if a.op=7 then addV X a.n else X) (if a.op=3 then addV A a.n else A)=true:=by
 obtain ⟨w,x,hh⟩:=head_of h
 have q:=args_of h hh
 refine ⟨?_,q.2⟩
 rw [head_mu (decide_eq_true ho)] at hh
 have:=(if_some hh).2
 simp only [Pie] at this
 rw [q.1,← this.1];rfl
theorem brs_len {ds:List Decl} {fs:List CFun} {a:Node} {X A:Int → Bool} (h:vN ds fs a X A=true) (ho:a.op=4 ∨ a.op=8):∃ d,declAt ds a.ty=some d ∧ vBs ds fs a.brs d.xtors X A=true:=by
 obtain ⟨w,y,hh,_,hb,_⟩:=vN_some h
 rw [head_match (op:=a.op) (by rcases ho with h | h <;> simp [h])] at hh
 split at hh
 ·rename_i d hd
  have:=(if_some hh).2
  simp only [Pie] at this
  exact ⟨d,hd,by rw [this.2];exact hb⟩
 cases hh
theorem declAt_get {ds:List Decl} {t:Int} {d:Decl} (h:declAt ds t=some d):1 ≤ t ∧ t ≤ ds.length ∧ ds[(t - 1).toNat]?=some d:=by
 have hb:=declAt_bounds h
 rw [declAt,if_pos hb.1] at h
 exact ⟨hb.1,hb.2,h⟩
theorem kcut_c (s:Sg) (c:Core) (k i0 i1:Nat) (X A:Int → Option Int) (a:Node) (hz:a.sz ≤ 2 ^ 40) (H:∀ b ∈ a.args,TC c b) (H2:∀ b ∈ a.brs,TC c b.body) (hK:KT c k i0 i1 X A s) (hc:CoreSz c) (hv:vN c.decls c.funs a (dom X) (dom A)=true) (ho:a.op=9):HC p N36_ [.ptr k 0,.agg a.cs] s (fun r s'=>TPost c k i0 i1 X A s (tN c.decls c.funs a X A) r s'):=by
 have hza:a.args.length ≤ 2 ^ 40:=by have:=a.sz_args;omega
 have hl:=cut_len hv ho
 refine hcf J f36_ J ?_
 simp only [chainOf]
 refine er (hbox (dq2 rfl) rfl (lq5 rfl) (pq2 rfl (qn (kq2 rfl) (kq1 rfl) (er (pq6 rfl (qp rfl (hbsl rfl rfl (lq2 rfl) (hcall rfl rfl rfl (are_c _ c k i0 i1 X A a.args [a.ty,a.ty] hza (by simp;omega) H hl.2 hK) ?_))))))))
 rintro _ S1 ⟨rfl,hK1,hc1⟩
 refine pq2 J (qn (kq2 J) kn (eret (fqr J ?_)))
 refine ⟨_,_,J,?_,hK1,hc1⟩
 rw [tN_eq]
 simp only [ho]
 simp
theorem kprim_c (s:Sg) (c:Core) (k i0 i1:Nat) (X A:Int → Option Int) (a:Node) (hz:a.sz ≤ 2 ^ 40) (H:∀ b ∈ a.args,TC c b) (H2:∀ b ∈ a.brs,TC c b.body) (hK:KT c k i0 i1 X A s) (hc:CoreSz c) (hv:vN c.decls c.funs a (dom X) (dom A)=true) (ho:a.op=10):HC p N37_ [.ptr k 0,.agg a.cs] s (fun r s'=>TPost c k i0 i1 X A s (tN c.decls c.funs a X A) r s'):=by
 have hza:a.args.length ≤ 2 ^ 40:=by have:=a.sz_args;omega
 have hl:=test_len hv (.inl ho)
 refine hcf J f37_ J ?_
 simp only [chainOf]
 refine er (hbox (dq2 rfl) rfl (lq5 rfl) (pq2 rfl (qn (kq2 rfl) (kq1 rfl) (er (pq3 rfl (hbsl rfl rfl (lq3 rfl) (hcall rfl rfl rfl (are_c _ c k i0 i1 X A a.args [0,0,0] hza (by simp;omega) H hl.2 hK) ?_)))))))
 rintro _ S1 ⟨rfl,hK1,hc1⟩
 refine pq2 J (qn (kq2 J) kn (eret (fqr J ?_)))
 refine ⟨_,_,J,?_,hK1,hc1⟩
 rw [tN_eq]
 simp only [ho]
 simp
theorem ktest_c (s:Sg) (c:Core) (k i0 i1:Nat) (X A:Int → Option Int) (a:Node) (hz:a.sz ≤ 2 ^ 40) (H:∀ b ∈ a.args,TC c b) (H2:∀ b ∈ a.brs,TC c b.body) (hK:KT c k i0 i1 X A s) (hc:CoreSz c) (hv:vN c.decls c.funs a (dom X) (dom A)=true) (ho:a.op=11 ∨ a.op=12 ∨ a.op=14):HC p N38_ [.ptr k 0,.agg a.cs] s (fun r s'=>TPost c k i0 i1 X A s (tN c.decls c.funs a X A) r s'):=by
 have hza:a.args.length ≤ 2 ^ 40:=by have:=a.sz_args;omega
 have hl:=test_len hv (.inr ho)
 refine hcf J f38_ J ?_
 simp only [chainOf]
 refine er (hbox (dq2 rfl) rfl (lq5 rfl) (pq2 rfl (qn (kq2 rfl) (kq1 rfl) (er (pq3 rfl (hbsl rfl rfl (lq3 rfl) (hcall rfl rfl rfl (are_c _ c k i0 i1 X A a.args [0,0,0] hza (by simp;omega) H hl.2 hK) ?_)))))))
 rintro _ S1 ⟨rfl,hK1,hc1⟩
 refine pq2 J (qn (kq2 J) kn (eret (fqr J ?_)))
 refine ⟨_,_,J,?_,hK1,hc1⟩
 rw [tN_eq]
 rcases ho with h | h | h <;> simp [h]
theorem kcall_c (s:Sg) (c:Core) (k i0 i1:Nat) (X A:Int → Option Int) (a:Node) (hz:a.sz ≤ 2 ^ 40) (H:∀ b ∈ a.args,TC c b) (H2:∀ b ∈ a.brs,TC c b.body) (hK:KT c k i0 i1 X A s) (hc:CoreSz c) (hv:vN c.decls c.funs a (dom X) (dom A)=true) (ho:a.op=13):HC p N39_ [.ptr k 0,.agg a.cs] s (fun r s'=>TPost c k i0 i1 X A s (tN c.decls c.funs a X A) r s'):=by
 have hza:a.args.length ≤ 2 ^ 40:=by have:=a.sz_args;omega
 obtain ⟨g,hg,hn,hl,hva⟩:=call_len hv ho
 have hgp:=hc.ga g (Lmg hg)
 refine hcf J f39_ J ?_
 simp only [chainOf]
 refine er (hbox (dq2 J) J (lq5 J) (pq2 J (qn (kq2 J) (kq1 J) (er (pq6 J (qp J (hldo J hK.hk J ?_)))))))
 refine pq2 J ?_
 refine hia (y:=.agg (Str g.name :: encArgs g.params :: ints g.vars :: g.body.cs)) rfl rfl hn (by rw [Lgm,hg];simp [CFun.enc_eq]) rfl ?_
 refine pq2 J (hcall J J J (types_c _ g.params hgp) ?_)
 rintro _ _ ⟨rfl,hq⟩
 obtain rfl:=hq.symm
 rw [show g.params.map (fun a=>I a.ty)=(g.params.map Arg.ty).map I from by simp]
 refine hcall rfl rfl rfl (are_c _ c k i0 i1 X A a.args (g.params.map Arg.ty) hza (by simp;omega) H hva hK) ?_
 rintro _ S1 ⟨rfl,hK1,hc1⟩
 refine pq2 J (qn (kq2 J) kn (eret (fqr J ?_)))
 refine ⟨_,_,J,?_,hK1,hc1⟩
 rw [tN_eq]
 simp only [ho]
 simp [parTys,hg]
theorem kxtor_c (s:Sg) (c:Core) (k i0 i1:Nat) (X A:Int → Option Int) (a:Node) (hz:a.sz ≤ 2 ^ 40) (H:∀ b ∈ a.args,TC c b) (H2:∀ b ∈ a.brs,TC c b.body) (hK:KT c k i0 i1 X A s) (hc:CoreSz c) (hv:vN c.decls c.funs a (dom X) (dom A)=true) (ho:a.op=2 ∨ a.op=6):HC p N33_ [.ptr k 0,.agg a.cs] s (fun r s'=>TPost c k i0 i1 X A s (tN c.decls c.funs a X A) r s'):=by
 have hza:a.args.length ≤ 2 ^ 40:=by have:=a.sz_args;omega
 obtain ⟨d,x,hda,hn,hx,hl,hva⟩:=xtor_len hv ho
 have hd:=declAt_get hda
 have hxa:=hc.xa d (Lmg hd.2.2) x (Lmg hx)
 have hdl:=hc.dl
 refine hcf J f33_ J ?_
 simp only [chainOf]
 refine er (hbox (dq2 J) J (lq5 J) (pq2 J (qn (kq2 J) (kq1 J) (er (pq6 J (pq3 J (hldo J hK.hk J ?_)))))))
 refine pq2 J (hsub J J (i64w (by omega)) ?_)
 refine hia (y:=Decl.enc d) rfl rfl (by omega) (by rw [Lgm,hd.2.2];rfl) rfl ?_
 refine pq4 J ?_
 refine hia (y:=Xtor.enc x) rfl rfl hn (by rw [Lgm,hx];rfl) rfl ?_
 refine pq2 J (hcall J J J (types_c _ x.args hxa) ?_)
 rintro _ _ ⟨rfl,hq⟩
 obtain rfl:=hq.symm
 rw [show x.args.map (fun a=>I a.ty)=(x.args.map Arg.ty).map I from by simp]
 refine hcall rfl rfl rfl (are_c _ c k i0 i1 X A a.args (x.args.map Arg.ty) hza (by simp;omega) H hva hK) ?_
 rintro _ S1 ⟨rfl,hK1,hc1⟩
 refine pq2 J (qn (kq2 J) kn (eret (fqr J ?_)))
 refine ⟨_,_,J,?_,hK1,hc1⟩
 rw [tN_eq,xtorTys,hda]
 simp only [hx]
 rcases ho with h | h <;> simp [h]
theorem mu_binds {a:Node} (X A:Int → Option Int) (ho:a.op=3 ∨ a.op=7):bindsT false X [a.n] [⟨a.ty,decide (a.op=3)⟩]=(if a.op=7 then bindT X a.n a.ty else X) ∧ bindsT true A [a.n] [⟨a.ty,decide (a.op=3)⟩]=(if a.op=3 then bindT A a.n a.ty else A):=by
 rcases ho with h | h <;> simp [bindsT,h]
theorem mu_dom {a:Node} (X A:Int → Option Int) (ho:a.op=3 ∨ a.op=7):dom (bindsT false X [a.n] [⟨a.ty,decide (a.op=3)⟩])=(if a.op=7 then addV (dom X) a.n else dom X) ∧ dom (bindsT true A [a.n] [⟨a.ty,decide (a.op=3)⟩])=(if a.op=3 then addV (dom A) a.n else dom A):=by
 obtain ⟨h1,h2⟩:=mu_binds (a:=a) X A ho
 rw [h1,h2]
 constructor
 ·split
  ·exact dom_bind _ _ _
  rfl
 split
 ·exact dom_bind _ _ _
 rfl
theorem vBs_at {ds:List Decl} {fs:List CFun}:∀ {l:List Br} {xs:List Xtor} {X A:Int → Bool} {i:Nat} {b:Br} {x:Xtor},vBs ds fs l xs X A=true → l[i]?=some b → xs[i]?=some x → vB ds fs b x X A=true
 | [],_,_,_,_,_,_,_,h,_=>by simp at h
 | _ :: _,[],_,_,_,_,_,h,_,_=>by simp [vBs] at h
 | b' :: l,x' :: xs,X,A,i,b,x,h,hb,hx=>by
   simp only [vBs,Bae] at h
   cases i with
   | zero=>simp at hb hx;subst hb hx;exact h.1
   | succ i=>exact vBs_at h.2 (by simpa using hb) (by simpa using hx)
theorem vB_info {ds:List Decl} {fs:List CFun} {b:Br} {x:Xtor} {X A:Int → Option Int} (h:vB ds fs b x (dom X) (dom A)=true):b.vars.length=x.args.length ∧ vN ds fs b.body (dom (bindsT false X b.vars x.args)) (dom (bindsT true A b.vars x.args))=true:=by
 simp only [vB_eq,Bae,Dte] at h
 obtain ⟨⟨⟨⟨h1,h2⟩,_⟩,_⟩,h5⟩:=h
 refine ⟨h1,?_⟩
 rw [dom_binds _ _ _ _ h1,dom_binds _ _ _ _ h1,← h2]
 exact h5
theorem kmu_c (s:Sg) (c:Core) (k i0 i1:Nat) (X A:Int → Option Int) (a:Node) (hz:a.sz ≤ 2 ^ 40) (H:∀ b ∈ a.args,TC c b) (H2:∀ b ∈ a.brs,TC c b.body) (hK:KT c k i0 i1 X A s) (hc:CoreSz c) (hv:vN c.decls c.funs a (dom X) (dom A)=true) (ho:a.op=3 ∨ a.op=7):HC p N34_ [.ptr k 0,.agg a.cs] s (fun r s'=>TPost c k i0 i1 X A s (tN c.decls c.funs a X A) r s'):=by
 have hza:a.args.length ≤ 2 ^ 40:=by have:=a.sz_args;omega
 obtain ⟨hl,hva⟩:=mu_len hv ho
 obtain ⟨hd1,hd2⟩:=mu_dom (a:=a) X A ho
 obtain ⟨he1,he2⟩:=mu_binds (a:=a) X A ho
 rw [← hd1,← hd2] at hva
 refine hcf J f34_ J ?_
 simp only [chainOf]
 refine er (hbox (dq2 J) J (lq5 J) (pq2 J (qn (kq2 J) (kq1 J) (er (pq3 J (hbsl J J (lq1 J) (pq5 J (hbuild J J (lq2 J) (hbsl J J (lq1 J) (hcall J J J (bind_c _ c k i0 i1 X A [a.n] [⟨a.ty,decide (a.op=3)⟩] (by simp) (by simp) hK) ?_))))))))))
 rintro _ S1 ⟨bk,ba,rfl,hE,hc1,hbk,hba⟩
 refine hdf rfl rfl rfl (qn (kq2 rfl) (kq1 rfl) (er (pq5 rfl (hbsl rfl rfl (lq1 rfl) (hcall rfl rfl rfl (are_c _ c k i0 i1 _ _ a.args [0] hza (by simp;omega) H hva hE.hK) ?_)))))
 rintro _ S2 ⟨rfl,hK2,hc2⟩
 refine pq2 J (qn (kq2 J) kn (eret ?_))
 refine fqd1 (.inl J) J f67_ J (kl_c hK hE hc1 hK2 hc2 (by simp)) ?_
 rintro r S3 ⟨rfl,hK3,hc3⟩
 refine ⟨_,J,a.ty,_,J,?_,hK3,hc3⟩
 rw [tN_eq,he1,he2]
 rcases ho with h | h <;> simp [h]
theorem kmatch_l {k i0 i1:Nat} (nd:Node) (c:Core) (l:List Br) (d:Decl) (hdl:c.decls.length ≤ 2 ^ 40) (hty:1 ≤ nd.ty ∧ nd.ty ≤ c.decls.length) (hd0:c.decls[(nd.ty - 1).toNat]?=some d) (hxa:∀ x ∈ d.xtors,x.args.length ≤ 2 ^ 40) (hzb:∀ b ∈ l,b.sz ≤ 2 ^ 40) (X A:Int → Option Int) (hlen:l.length=d.xtors.length) (H:∀ b ∈ l,TC c b.body) (hvb:∀ (i:Nat) (b:Br) (x:Xtor),l[i]?=some b → d.xtors[i]?=some x → vB c.decls c.funs b x (dom X) (dom A)=true) (i:Nat) (hi:i ≤ l.length) (hs:l.length ≤ 2 ^ 40) {n:Nat} {v:Nat → Bool} {D:List (Nat × List AV)} {S:Sg} {Q:Ex → Fr → Prop}
 (hK:KT c k i0 i1 X A S) (hX:∀ j S',tBs c.decls c.funs (l.drop i) (d.xtors.drop i) X A=true → KT c k i0 i1 X A S' → Chg (IXA i0 i1) S S' → Q (.exit 0) ⟨uv (upd (uv (uv (uv (uv e0 14 (B false)) 13 (I j)) 12 (I (l.map Br.enc).length)) 11 (.slice .none 7 (l.map Br.enc))) 3 (some (.loc 3 0))) 0 (.ptr k 0),upd ((fun _=>none)) 3 (some (nd.cs)),n,v,D,S'⟩)
 (hR:∀ S',tBs c.decls c.funs (l.drop i) (d.xtors.drop i) X A=false → KT c k i0 i1 X A S' → Chg (IXA i0 i1) S S' → Q .ret ⟨uv (uv e0 5 (B false)) 4 (I 0),(fun _=>none),n,v,D,S'⟩):EX (callL p) (.loop F35_l1) ⟨uv (upd (uv (uv (uv e0 13 (I i)) 12 (I (l.map Br.enc).length)) 11 (.slice .none 7 (l.map Br.enc))) 3 (some (.loc 3 0))) 0 (.ptr k 0),upd ((fun _=>none)) 3 (some (nd.cs)),n,v,D,S⟩ Q:=by
 refine eloop (er (qp J (qb ?_)))
 rintro (_ | _) h1
 ·refine qn (kq6 J) (kq1 J) (eseq (ecF J (eexit (sqx ?_))))
  exact hX _ _ (by rw [List.drop_eq_nil_of_le (by simp at h1 ⊢;omega),tBs];simp) hK (Chg.refl _)
 refine qn (kq6 J) (kq1 J) (eseq (ecT J (eskip (sqn (eseq (eblock (er (qp J ?_))))))))
 have hlt:i < l.length:=by simpa using h1
 obtain ⟨a,ha⟩:=get_of_lt hlt
 have hd:=drop_cons ha
 refine hia (y:=.agg (ints a.vars :: bools a.co :: a.body.cs)) rfl rfl (by omega) (by simp [ha,Node.enc_eq,Br.enc_eq,CFun.enc_eq]) rfl (hlda rfl rfl (lc rfl (lc rfl (lc rfl (lc rfl (lc rfl (lc rfl (lc rfl (ln rfl)))))))) (hal (dc (dc (dc (dc (dc (dc (dc (dc (dc dn rfl) rfl) rfl) rfl) rfl) rfl) rfl) rfl) rfl) (qp rfl (hstl rfl rfl rfl rfl (Nlb rfl) (lc rfl (lc rfl (lc rfl (lc rfl (lc rfl (lc rfl (lc rfl (ln rfl)))))))) (qk (kc rfl (kc rfl (kc rfl (kc rfl (kc rfl (kc rfl (kc rfl kn))))))) (kc rfl (kc rfl kn)) (sqn (eseq (ereg (qp rfl (qp rfl (qp rfl (qp rfl (qp rfl (qp rfl (qp rfl ?_)))))))))))))))
 obtain ⟨x,hx⟩:=get_of_lt (l:=d.xtors) (i:=i) (by omega)
 have hx2:=drop_cons hx
 obtain ⟨hvl,hvn⟩:=vB_info (hvb i a x ha hx)
 have hsv:=a.sz_vars
 have hsz:=hzb a (Lmg ha)
 refine hldo J hK.hk J ?_
 refine pq2 J (hsub J J (i64w (by omega)) ?_)
 refine hia (y:=Decl.enc d) rfl rfl (by omega) (by rw [Lgm,hd0];rfl) rfl ?_
 refine qp rfl (qp rfl (qp rfl (hia (y:=Xtor.enc x) rfl rfl (by omega) (by simp [hx]) rfl (qp rfl (qp rfl (hcall rfl rfl rfl (bind_c _ c k i0 i1 X A a.vars x.args (by omega) (by omega) hK) ?_))))))
 rintro _ S1 ⟨bk,ba,rfl,hE,hc1,hbk,hba⟩
 refine qp rfl (qn (kq7 rfl) (kq2 rfl) (er (pq2 rfl (hlda rfl rfl (lq5 rfl) (hbsl rfl rfl (lq1 rfl) (hbsl rfl rfl (lq1 rfl) (hcall rfl rfl (by rw [show ([a.body].map Node.enc)=[.agg a.body.cs] from by rw [List.map_cons,Node.enc_eq];rfl];rfl) (are_c _ c k i0 i1 _ _ [a.body] [0] (by simp) (by simp) (fun b hb=>by simp at hb;subst hb;exact H a (Lmg ha)) (fun b hb=>by simp at hb;subst hb;exact hvn) hE.hK) ?_)))))))
 rintro _ S2 ⟨rfl,hK2,hc2⟩
 refine qb ?_
 rintro (_ | _) h2
 ·refine qp J (qn (kq7 J) (kq1 J) (er (qp J (hcall J J J (kl_c hK hE hc1 hK2 hc2 (by omega)) ?_))))
  rintro _ S3 ⟨rfl,hK3,hc3⟩
  refine qn (kq6 J) (kq1 J) (er (pq2 J (qn (kq6 J) (kq1 J) (ecT J (er (pq2 J (qn (kq2 J) kn (eret (bqr (sqr ?_))))))))))
  have g:tNs c.decls c.funs [a.body] [0] (bindsT false X a.vars x.args) (bindsT true A a.vars x.args)=false:=by assumption
  have e:tBs c.decls c.funs (l.drop i) (d.xtors.drop i) X A=false:=by
   rw [hd,hx2,tBs,tB_eq]
   simp only [tNs,Bool.and_true] at g
   rw [g,Bfa]
  exact hR _ e hK3 hc3
 refine qp J (qn (kq7 J) (kq1 J) (er (qp J (hcall J J J (kl_c hK hE hc1 hK2 hc2 (by omega)) ?_))))
 rintro _ S3 ⟨rfl,hK3,hc3⟩
 refine qn (kq6 J) (kq1 J) (er (pq2 J (qn (kq6 J) (kq1 J) (ecF J (eskip (bqn (sqn (ereg (hadd J J (i64w (by omega)) (qp J (qk (kq5 J) (kq1 J) ?_)))))))))))
 have g:tNs c.decls c.funs [a.body] [0] (bindsT false X a.vars x.args) (bindsT true A a.vars x.args)=true:=by assumption
 have e:tBs c.decls c.funs (l.drop i) (d.xtors.drop i) X A=tBs c.decls c.funs (l.drop (i + 1)) (d.xtors.drop (i + 1)) X A:=by
  rw [hd,hx2,tBs,tB_eq]
  simp only [tNs,Bool.and_true] at g
  rw [g,Bta]
 exact kmatch_l nd c l d hdl hty hd0 hxa hzb X A hlen H hvb (i + 1) (by omega) hs hK3 (fun j S' h k2 c2=>hX j S' (e.trans h) k2 (hc3.trans c2)) (fun S' h k2 c2=>hR S' (e.trans h) k2 (hc3.trans c2))
termination_by l.length - i
decreasing_by all_goals omega
theorem kmatch_c (s:Sg) (c:Core) (k i0 i1:Nat) (X A:Int → Option Int) (a:Node) (hz:a.sz ≤ 2 ^ 40) (H:∀ b ∈ a.args,TC c b) (H2:∀ b ∈ a.brs,TC c b.body) (hK:KT c k i0 i1 X A s) (hc:CoreSz c) (hv:vN c.decls c.funs a (dom X) (dom A)=true) (ho:a.op=4 ∨ a.op=8):HC p N35_ [.ptr k 0,.agg a.cs] s (fun r s'=>TPost c k i0 i1 X A s (tN c.decls c.funs a X A) r s'):=by
 have hza:a.args.length ≤ 2 ^ 40:=by have:=a.sz_args;omega
 obtain ⟨d,hda,hvb⟩:=brs_len hv ho
 have hd:=declAt_get hda
 refine hcf J f35_ J ?_
 simp only [chainOf]
 refine er (hbox (dq2 J) J (lq5 J) (pq2 J (qn (kq2 J) (kq1 J) (eseq (er (pq4 J (qn (kq5 J) (kq1 J) (eblock ?_))))))))
 refine kmatch_l a c a.brs d hc.dl ⟨hd.1,hd.2.1⟩ hd.2.2 (hc.xa d (Lmg hd.2.2)) (fun b hb=>by have:=Node.sz_br hb;omega) X A (vBs_len hvb) H2 (fun i b x h1 h2=>vBs_at hvb h1 h2) 0 (by omega) (by have:=a.sz_brs;omega) hK ?_ ?_
 ·intro j S1 hj hK1 hc1
  refine bqx (sqn (er (pq4 J (qn (kq2 J) kn (eret (fqr J ?_))))))
  refine ⟨_,_,J,?_,hK1,hc1⟩
  rw [tN_eq,xtorsOf,hda]
  rw [List.drop_zero,List.drop_zero] at hj
  rcases ho with h | h <;> simp [h,hj]
 intro S1 hj hK1 hc1
 refine bqr (sqr (fqr J ?_))
 refine ⟨_,_,J,?_,hK1,hc1⟩
 rw [tN_eq,xtorsOf,hda]
 rw [List.drop_zero,List.drop_zero] at hj
 rcases ho with h | h <;> simp [h,hj]
def ruleOf (op:Int):Nat:=if op=0 ∨ op=5 then N31_ else if op=1 then N32_ else if op=2 ∨ op=6 then N33_ else if op=3 ∨ op=7 then N34_ else if op=4 ∨ op=8 then N35_
 else if op=9 then N36_ else if op=10 then N37_ else if op=13 then N39_ else N38_
theorem rule_at {c:Core} {k i0 i1:Nat} {op:Int} (h:0 ≤ op ∧ op < 15):rd none (kCells c k i0 i1) (0 + 4 + op.toNat * 1)=some (.fn (ruleOf op) [.ptr k 0] []):=by
 obtain ⟨n,rfl⟩:∃ n:Nat,op=n:=⟨op.toNat,by omega⟩
 have h2:n < 15:=by omega
 clear h
 match n,h2 with
 | 0,_ | 1,_ | 2,_ | 3,_ | 4,_ | 5,_ | 6,_ | 7,_ | 8,_ | 9,_ | 10,_ | 11,_ | 12,_ | 13,_ | 14,_=>rfl
theorem op_range {ds:List Decl} {fs:List CFun} {a:Node} {X A:Int → Bool} (h:vN ds fs a X A=true):0 ≤ a.op ∧ a.op < 15:=by
 obtain ⟨w,x,hh⟩:=head_of h
 rcases Decidable.em (0 ≤ a.op ∧ a.op < 15) with q | q
 ·exact q
 rw [head_no (by simp;omega) (by simp;omega) (by simp;omega) (by simp;omega) (by simp;omega) (by simp;omega) (by simp;omega) (by simp;omega) (by simp;omega) (by simp;omega) (by simp;omega) (by simp;omega)] at hh
 cases hh
theorem rule_c (s:Sg) (c:Core) (k i0 i1:Nat) (X A:Int → Option Int) (a:Node) (hz:a.sz ≤ 2 ^ 40) (H:∀ b ∈ a.args,TC c b) (H2:∀ b ∈ a.brs,TC c b.body) (hK:KT c k i0 i1 X A s) (hc:CoreSz c) (hv:vN c.decls c.funs a (dom X) (dom A)=true):HC p (ruleOf a.op) [.ptr k 0,.agg a.cs] s (TPost c k i0 i1 X A s (tN c.decls c.funs a X A)):=by
 have hr:=op_range hv
 unfold ruleOf
 split
 ·exact kvar_c s c k i0 i1 X A a hz H H2 hK hc hv ‹_›
 split
 ·exact knum_c s c k i0 i1 X A a hz H H2 hK hc hv ‹_›
 split
 ·exact kxtor_c s c k i0 i1 X A a hz H H2 hK hc hv ‹_›
 split
 ·exact kmu_c s c k i0 i1 X A a hz H H2 hK hc hv ‹_›
 split
 ·exact kmatch_c s c k i0 i1 X A a hz H H2 hK hc hv ‹_›
 split
 ·exact kcut_c s c k i0 i1 X A a hz H H2 hK hc hv ‹_›
 split
 ·exact kprim_c s c k i0 i1 X A a hz H H2 hK hc hv ‹_›
 split
 ·exact kcall_c s c k i0 i1 X A a hz H H2 hK hc hv ‹_›
 exact ktest_c s c k i0 i1 X A a hz H H2 hK hc hv (by omega)
theorem typ_c0 (s:Sg) (c:Core) (k i0 i1:Nat) (X A:Int → Option Int) (a:Node) (hz:a.sz ≤ 2 ^ 40) (H:∀ b ∈ a.args,TC c b) (H2:∀ b ∈ a.brs,TC c b.body) (hK:KT c k i0 i1 X A s) (hc:CoreSz c) (hv:vN c.decls c.funs a (dom X) (dom A)=true):HC p N18_ [.ptr k 0,.agg a.cs] s (fun r s'=>TPost c k i0 i1 X A s (tN c.decls c.funs a X A) r s'):=by
 have hr:=op_range hv
 refine hcf J f18_ J ?_
 simp only [chainOf]
 refine eseq (ereg (hbox (dc (dc dn rfl) rfl) rfl (lc rfl (lc rfl (lc rfl (lc rfl (lc rfl (ln rfl)))))) (qp rfl (qp rfl (qk (kc rfl (kc rfl kn)) (kc rfl kn) (sqn (eseq (ereg (qp rfl (qp rfl (qp rfl (qp rfl (qp rfl (hiaa (t:=.val (.ptr k (0 + 4 + a.op.toNat * 1))) rfl rfl hr rfl (hldo rfl hK.hk (rule_at hr) ?_)))))))))))))))
 refine hlda J J (lq5 J) (hcall J J J (rule_c s c k i0 i1 X A a hz H H2 hK hc hv) ?_)
 rintro _ S1 ⟨t,b,rfl,ho,hK1,hc1⟩
 refine pq4 J (qn (kq2 J) kn (eret (fqr J ?_)))
 exact ⟨t,b,rfl,ho,hK1,hc1⟩
theorem typ_c (c:Core) (hc:CoreSz c) (a:Node):a.sz ≤ 2 ^ 40 → TC c a:=by
 induction a using Node.ind with
 | h a h1 h2 =>
   intro hz s k i0 i1 X A hK hv
   exact typ_c0 s c k i0 i1 X A a hz (fun b hb=>h1 b hb (by have:=Node.sz_arg hb;omega)) (fun b hb=>h2 b hb (by have:=Node.sz_br hb;have:=b.sz_body;omega)) hK hc hv
theorem newC_c (s:Sg) (c:Core):HC p N15_ [.agg (Core.cs c)] s (fun r s'=>∃ k i0 i1,r=[.ptr k 0] ∧ KT c k i0 i1 (fun _=>none) (fun _=>none) s' ∧ Ext s s' ∧ s.nx ≤ i0 ∧ s.nx ≤ i1 ∧ s.nx ≤ k):=by
 refine hcf J f15_ J ?_
 simp only [chainOf]
 refine er (hbox (dc dn J) J (lq2 J) (qp J (qn (kq1 J) (kq1 J) (er (hlda J J (lq2 J) (hmkm (hmkm (hbuild J J (lq2 J) (hbuild J J (lc J (lc J (lc J (lq16 J)))) (hboxo J (lc J (lc J (lc J (lq16 J)))) (qp J (qn (kq1 J) kn (er (pq5 J ?_))))))))))))))
 refine pq6 J (pq6 J (pq6 J (pq6 J ?_)))
 refine qp rfl (qp rfl (hbuild (cs:=kRules (s.nx + 2)) rfl (by simp [fillA,kRules,AV.cells];exact ⟨rfl,rfl⟩) rfl (qp rfl (qp rfl (hsto (cs':=kCells c (s.nx + 2) s.nx (s.nx + 1)) rfl rfl new_ob rfl (Nlb rfl) (by simp) (by rfl) (qk (kc rfl kn) kn (sqn (eseq (ereg (qp rfl (qp rfl (qk (kc rfl kn) kn (sqn (eret (fqr rfl ?_)))))))))))))))
 refine ⟨s.nx + 2,s.nx,s.nx + 1,rfl,⟨set_ob,?_,?_,?_,?_,?_,by omega,by omega,by omega⟩,?_,by omega,by omega,by omega⟩
 ·rw [set_ne (by show s.nx ≠ s.nx + 2;omega),new_lt (by show s.nx < s.nx + 2;omega),new_lt (by show s.nx < s.nx + 1;omega),tyM_nil];exact new_ob
 ·rw [set_ne (by show s.nx + 1 ≠ s.nx + 2;omega),new_lt (by show s.nx + 1 < s.nx + 2;omega),tyM_nil];exact new_ob
 ·show s.nx + 2 < s.nx + 3;omega
 ·show s.nx < s.nx + 3;omega
 ·show s.nx + 1 < s.nx + 3;omega
 exact ((((Ext.refl s).trans Ext.new).trans Ext.new).trans Ext.new).set (by show s.nx ≤ s.nx + 2;omega)
def funT (c:Core) (g:CFun):Bool:=(tN c.decls c.funs g.body (bindsT false (fun _=>none) g.vars g.params) (bindsT true (fun _=>none) g.vars g.params)).isSome
def typedOk2 (c:Core):Bool:=c.funs.all (funT c)
theorem fun_dom {g:CFun} (w:Bool) (h:g.vars.length=g.params.length):dom (bindsT w (fun _=>none) g.vars g.params)=pScope w g:=by
 rw [dom_binds _ _ _ _ h]
 rfl
theorem core_body {c:Core} (h:coreOk c=true):∀ g ∈ c.funs,g.vars.length=g.params.length ∧ g.params.length ≤ 6 ∧ sortOf g.body.op=2 ∧ vN c.decls c.funs g.body (dom (bindsT false (fun _=>none) g.vars g.params)) (dom (bindsT true (fun _=>none) g.vars g.params))=true:=by
 intro g hg
 obtain ⟨_,h2,h3⟩:=(coreOk_iff c).1 h
 have hp:=headsOk_mem h2 g hg
 have hb:=h3.1 g hg
 rw [fun_dom _ hp.2,fun_dom _ hp.2]
 exact ⟨hp.2,hp.1,hb.1,hb.2.1⟩
theorem kT_l (c:Core) (hc:CoreSz c) (hok:coreOk c=true) (l:List CFun) (hl:∀ g ∈ l,g ∈ c.funs) (hbz:∀ g ∈ c.funs,g.body.sz ≤ 2 ^ 40) (i:Nat) (hi:i ≤ l.length) (hs:l.length ≤ 2 ^ 40) {n:Nat} {v:Nat → Bool} {D:List (Nat × List AV)} {S:Sg} {Q:Ex → Fr → Prop}
 (hX:∀ j S',(l.drop i).all (funT c)=true → Ext S S' → Q (.exit 0) ⟨upd (uv (uv (uv (uv e0 12 (B false)) 11 (I j)) 10 (I (l.map CFun.enc).length)) 9 (.slice .none 8 (l.map CFun.enc))) 1 (some (.loc 1 0)),upd ((fun _=>none)) 1 (some (Core.cs c)),n,v,D,S'⟩) (hR:∀ S',(l.drop i).all (funT c)=false → Ext S S' → Q .ret ⟨uv e0 2 (B false),(fun _=>none),n,v,D,S'⟩):EX (callL p) (.loop F23_l1) ⟨upd (uv (uv (uv e0 11 (I i)) 10 (I (l.map CFun.enc).length)) 9 (.slice .none 8 (l.map CFun.enc))) 1 (some (.loc 1 0)),upd ((fun _=>none)) 1 (some (Core.cs c)),n,v,D,S⟩ Q:=by
 refine eloop (er (qp J (qb ?_)))
 rintro (_ | _) h1
 ·refine qn (kq5 J) (kq1 J) (eseq (ecF J (eexit (sqx ?_))))
  exact hX _ _ (by rw [List.drop_eq_nil_of_le (by simp at h1 ⊢;omega)];rfl) (Ext.refl _)
 refine qn (kq5 J) (kq1 J) (eseq (ecT J (eskip (sqn (eseq (eblock (er ?_)))))))
 have hlt:i < l.length:=by simpa using h1
 obtain ⟨a,ha⟩:=get_of_lt hlt
 have hd:=drop_cons ha
 refine hia (y:=.agg (Str a.name :: encArgs a.params :: ints a.vars :: a.body.cs)) rfl rfl (by omega) (by simp [ha,Node.enc_eq,Br.enc_eq,CFun.enc_eq]) rfl (hlda rfl rfl (lc rfl (lc rfl (lc rfl (lc rfl (lc rfl (lc rfl (lc rfl (lc rfl (ln rfl))))))))) (hal (dc (dc (dc (dc (dc (dc (dc dn rfl) rfl) rfl) rfl) rfl) rfl) rfl) (hstl rfl rfl rfl rfl (Nlb rfl) (lc rfl (lc rfl (lc rfl (lc rfl (lc rfl (lc rfl (lc rfl (lc rfl (ln rfl))))))))) (qk (kc rfl (kc rfl (kc rfl (kc rfl (kc rfl kn))))) (kc rfl (kc rfl kn)) (sqn (eseq (ereg (hlda rfl rfl (lc rfl (lc rfl (ln rfl))) (hcall rfl rfl rfl (newC_c _ c) ?_)))))))))
 rintro _ S1 ⟨k,i0,i1,rfl,hK1,hx1,h01,h11,hk1⟩
 have hb:=core_body hok a (hl a (Lmg ha))
 refine qp J (qn (kq6 J) (kq2 J) (er (pq5 J (hcall J J J (bind_c _ c k i0 i1 _ _ a.vars a.params (by omega) (by omega) hK1) ?_))))
 rintro _ S2 ⟨bk,ba,rfl,hE,hc2,hbk,hba⟩
 refine qn (kq6 J) (kq2 J) (er (pq2 J (hlda J J (lq5 J) (hcall J J J (typ_c c hc a.body (hbz a (hl a (Lmg ha))) _ k i0 i1 _ _ hE.hK hb.2.2.2) ?_))))
 rintro _ S3 ⟨t,b,rfl,ho,hK3,hc3⟩
 have hx3:Ext S S3:=((hx1.chg.trans (hc2.trans hc3))).ext fun i h=>by rcases h with h | h <;> omega
 refine pq3 J (qb ?_)
 rintro (_ | _) h2
 ·refine pq2 J (qn (kq5 J) (kq1 J) (er (pq2 J (qn (kq5 J) (kq1 J) (ecT J (er (qp J (qn (kq1 J) kn (eret (bqr (sqr ?_)))))))))))
  have g:b=false:=by assumption
  have e:funT c a=false:=by unfold funT;rw [← ho,g];rfl
  exact hR _ (by rw [hd,List.all_cons,e,Bfa]) hx3
 refine pq2 J (qn (kq5 J) (kq1 J) (er (pq2 J (qn (kq5 J) (kq1 J) (ecF J (eskip (bqn (sqn (ereg (hadd J J (i64w (by omega)) (qp J (qk (kq4 J) (kq1 J) ?_))))))))))))
 have g:b=true:=by assumption
 have e:funT c a=true:=by unfold funT;rw [← ho,g];rfl
 exact kT_l c hc hok l hl hbz (i + 1) (by omega) hs (fun j S' h x=>hX j S' (by rw [hd,List.all_cons,e,h];rfl) (hx3.trans x)) (fun S' h x=>hR S' (by rw [hd,List.all_cons,h,Bool.and_false]) (hx3.trans x))
termination_by l.length - i
decreasing_by all_goals omega
theorem Typed_c (s:Sg) (c:Core) (hc:CoreSz c) (hok:coreOk c=true) (hbz:∀ g ∈ c.funs,g.body.sz ≤ 2 ^ 40) (hfl:c.funs.length ≤ 2 ^ 40):HC p N23_ [.agg (Core.cs c)] s (fun r s'=>r=[B (typedOk2 c)] ∧ Ext s s'):=by
 refine hcf J f23_ J ?_
 simp only [chainOf]
 refine er (hbox (dc dn J) J (lq2 J) (qp J (qn (kq1 J) (kq1 J) (eseq (er (pq4 J (qn (kq4 J) (kq1 J) (eblock ?_))))))))
 refine kT_l c hc hok c.funs (fun _ h=>h) hbz 0 (by omega) hfl ?_ ?_
 ·intro j S1 hj hx
  refine bqx (sqn (er (qp J (qn (kq1 J) kn (eret (fqr J ?_))))))
  refine ⟨?_,hx⟩
  unfold typedOk2
  rw [List.drop_zero] at hj
  rw [hj];rfl
 intro S1 hj hx
 refine bqr (sqr (fqr J ?_))
 refine ⟨?_,hx⟩
 unfold typedOk2
 rw [List.drop_zero] at hj
 rw [hj];rfl
theorem Check_c (s:Sg) (hQ:QOK s) (c:Core) (hc:CoreSz c) (hfv:∀ g ∈ c.funs,g.vars.length ≤ 2 ^ 40) (hbz:∀ g ∈ c.funs,g.body.sz ≤ 2 ^ 40) (hfl:c.funs.length ≤ 2 ^ 40):HC p N13_ [.agg (Core.cs c)] s (fun r s'=>r=[I (if coreOk c=true then (if typedOk2 c=true then 0 else 70) else 60)] ∧ Ext s s'):=by
 refine hcf J f13_ J ?_
 simp only [chainOf]
 refine er (hbox (dc dn J) J (lq2 J) (qp J (qn (kq1 J) (kq1 J) (eseq (er (hlda J J (lq2 J) (hcall J J J (cValid_c _ hQ c hc hfv hbz) ?_)))))))
 rintro _ S1 ⟨rfl,hx1⟩
 refine qb ?_
 rintro (_ | _) h1
 refine qp J (qn (kq2 J) (kq1 J) (ecT J (er (qp J (qn (kq1 J) kn (eret (sqr (fqr J ?_))))))))
 rotate_left
 refine qp J (qn (kq2 J) (kq1 J) (ecF J (eskip (sqn (eseq (er (hlda J J (lq2 J) (hcall J J J (Typed_c _ c hc ‹_› hbz hfl) ?_))))))))
 rintro _ S2 ⟨rfl,hx2⟩
 refine qb ?_
 rintro (_ | _) h2
 refine qp J (qn (kq1 J) kn (ecT J (er (qp J (qn (kq1 J) kn (eret (sqr (fqr J ?_))))))))
 rotate_left
 refine qp J (qn (kq1 J) kn (ecF J (eskip (sqn (er (qp J (qn (kq1 J) kn (eret (fqr J ?_)))))))))
 rotate_left
 all_goals
  first
  | (have g:coreOk c=false:=by assumption
     exact ⟨by rw [g];rfl,hx1⟩)
  | (have g:coreOk c=true:=by assumption
     have g2:typedOk2 c=false:=by assumption
     exact ⟨by rw [g,g2];rfl,hx1.trans hx2⟩)
  | (have g:coreOk c=true:=by assumption
     have g2:typedOk2 c=true:=by assumption
     exact ⟨by rw [g,g2];rfl,hx1.trans hx2⟩)
def inR (c:Core) (t:Int):Bool:=decide (0 ≤ t) && decide (t ≤ c.decls.length)
def bindL (Y:Int → Option Int):List Int → List Int → (Int → Option Int)
 | v :: vs,t :: ts=>bindL (bindT Y v t) vs ts
 | _,_=>Y
theorem dom_bindL:∀ (vs ts:List Int) (Y:Int → Option Int),vs.length=ts.length → dom (bindL Y vs ts)=setL (dom Y) vs
 | [],_,Y,_=>by simp [bindL,setL]
 | _ :: _,[],Y,h=>by simp at h
 | v :: vs,t :: ts,Y,h=>by rw [bindL,dom_bindL vs ts _ (by simpa using h),setL,dom_bind]
def sideOk (c:Core) (vs ts:List Int):Bool:=decide (vs.length=ts.length) && ts.all (inR c)
def askB (c:Core) (xs as g0 g1:List Int) (a:Node):Bool:=sideOk c xs g0 && sideOk c as g1 && vN c.decls c.funs a (setL (fun _=>false) xs) (setL (fun _=>false) as) && decide (nNodes a ≤ 30000) && decide (nDepth a ≤ 4000)
theorem kTy_l2 {i0 i1:Nat} (c:Core) (nd:Node) (k:Nat) (xs as g0 g1:List Int) (w:Bool) (l ts:List Int) (X A:Int → Option Int) (hlen:l.length=ts.length) (hts:(if w=true then g1 else g0)=ts) (i:Nat) (hi:i ≤ l.length) (hs:l.length ≤ 2 ^ 40) {x1 x2 x26 x27 x28:AV} {n:Nat} {v:Nat → Bool} {D:List (Nat × List AV)} {S:Sg} {Q:Ex → Fr → Prop}
 (hK:KT c k i0 i1 X A S) (hX:∀ j S',(ts.drop i).all (inR c)=true → KT c k i0 i1 (if w=false then bindL X (l.drop i) (ts.drop i) else X) (if w=true then bindL A (l.drop i) (ts.drop i) else A) S' → Chg (IXA i0 i1) S S' → Q (.exit 2) ⟨uv (uv (upd (upd (upd (uv (uv (uv (uv (uv (uv (uv (uv (uv e0 43 (B false)) 42 (I j)) 41 (I (l.map I).length)) 40 (.slice .none 1 (l.map I))) 28 (x28)) 27 (x27)) 26 (x26)) 13 (I ((w.toNat:Nat):Int))) 12 (.ptr k 0)) 9 (some (.loc 9 0))) 8 (some (.loc 8 0))) 5 (some (.loc 5 0))) 2 (x2)) 1 (x1),upd (upd (upd ((fun _=>none)) 9 (some (nd.cs))) 8 (some ([ints g0,ints g1]))) 5 (some (Core.cs c)),n,v,D,S'⟩)
 (hR:∀ S',(ts.drop i).all (inR c)=false → Chg (IXA i0 i1) S S' → Q .ret ⟨uv (uv e0 11 (I 1)) 10 (I 0),(fun _=>none),n,v,D,S'⟩):EX (callL p) (.loop F7_l2) ⟨uv (uv (upd (upd (upd (uv (uv (uv (uv (uv (uv (uv (uv e0 42 (I i)) 41 (I (l.map I).length)) 40 (.slice .none 1 (l.map I))) 28 (x28)) 27 (x27)) 26 (x26)) 13 (I ((w.toNat:Nat):Int))) 12 (.ptr k 0)) 9 (some (.loc 9 0))) 8 (some (.loc 8 0))) 5 (some (.loc 5 0))) 2 (x2)) 1 (x1),upd (upd (upd ((fun _=>none)) 9 (some (nd.cs))) 8 (some ([ints g0,ints g1]))) 5 (some (Core.cs c)),n,v,D,S⟩ Q:=by
 refine eloop (er (qp J (qb ?_)))
 rintro (_ | _) h1
 ·refine qn (kq14 J) (kq3 J) (eseq (ecF J (eexit (sqx ?_))))
  exact hX _ _ (by rw [List.drop_eq_nil_of_le (by simp at h1 ⊢;omega)];rfl) (by rw [List.drop_eq_nil_of_le (by simp at h1 ⊢;omega)];simpa [bindL] using hK) (Chg.refl _)
 refine qn (kq14 J) (kq3 J) (eseq (ecT J (eskip (sqn (eseq (eblock (er (qp J ?_))))))))
 have hlt:i < l.length:=by simpa using h1
 obtain ⟨a,ha⟩:=get_of_lt hlt
 have hd:=drop_cons ha
 refine hia (y:=I a) rfl rfl (by omega) (by simp [ha]) rfl (qp rfl (qp rfl (qp rfl (qk (kc rfl (kc rfl (kc rfl (kc rfl (kc rfl (kc rfl (kc rfl (kc rfl (kc rfl (kc rfl (kc rfl (kc rfl (kc rfl (kc rfl (kc rfl kn))))))))))))))) (kc rfl (kc rfl (kc rfl kn))) (sqn (eseq (eseq (ereg (qp rfl ?_)))))))))
 refine qp (t:=.loc 8 (0 + ((w.toNat:Nat):Int).toNat * 1)) (by cases w <;> rfl) ?_
 refine qp (t:=.val (ints ts)) (by subst hts;cases w <;> rfl) ?_
 refine qp J ?_
 obtain ⟨t,ht⟩:=get_of_lt (l:=ts) (i:=i) (by omega)
 have ht2:=drop_cons ht
 refine hia (y:=I t) rfl rfl (by omega) (by simp [ht]) rfl (qp rfl (qp rfl (qb ?_)))
 rintro (_ | _) h2
 ·refine qp J (qg J (qp J (qg J ?_)))
  refine qp (t:=.loc 8 (0 + ((w.toNat:Nat):Int).toNat * 1)) (by cases w <;> rfl) ?_
  refine qg J ?_
  refine qp (t:=.val (ints ts)) (by subst hts;cases w <;> rfl) ?_
  refine qg rfl (qp rfl (qg rfl (hia (y:=I t) rfl rfl (by omega) (by simp [ht]) rfl (qg rfl (qp rfl (qg rfl (qp rfl (qg rfl (qp rfl (qg rfl (qp rfl (qg rfl (qp rfl (qb ?_))))))))))))))
  rintro (_ | _) h3
  ·refine qp J (qn (kq16 J) (kq3 J) (ecF J (eskip (sqn (ereg (pq4 J ?_))))))
   refine qp (t:=.val (.ptr k (0 + 2 + ((w.toNat:Nat):Int).toNat * 1))) (by cases w <;> rfl) ?_
   refine hldo rfl hK.hk (y:=.map (if w then i1 else i0)) (by cases w <;> rfl) ?_
   refine pq2 J ?_
   refine qp (t:=.loc 8 (0 + ((w.toNat:Nat):Int).toNat * 1)) (by cases w <;> rfl) ?_
   refine qp (t:=.val (ints ts)) (by subst hts;cases w <;> rfl) ?_
   refine qp rfl (hia (y:=I t) rfl rfl (by omega) (by simp [ht]) rfl (qp rfl (hmu (m:=tyM (if w then A else X)) rfl rfl rfl rfl (hK.at w) ?_)))
   rw [show (AV.lit (.int .i64 t)).er=I t from rfl,tyM_set]
   refine qk (kq13 J) (kq3 J) (bqn (sqn (ereg (hadd J J (i64w (by omega)) (qp J (qk (kq13 J) (kq3 J) ?_))))))
   have e:inR c t=true:=by
    unfold inR
    clear hX hR
    simp_all
   have hK1:=hK.set w (bindT (if w=true then A else X) a t)
   have e1:(if w=false then bindT (if w=true then A else X) a t else X)=if w=false then bindT X a t else X:=by cases w <;> rfl
   have e2:(if w=true then bindT (if w=true then A else X) a t else A)=if w=true then bindT A a t else A:=by cases w <;> rfl
   rw [e1,e2] at hK1
   have hc1:Chg (IXA i0 i1) S (S.set (if w=true then i1 else i0) (.map (.int .i64) (tyM (bindT (if w=true then A else X) a t)))):=(Chg.refl S).set fun _=>by cases w;exact .inl rfl;exact .inr rfl
   refine kTy_l2 c nd k xs as g0 g1 w l ts _ _ hlen hts (i + 1) (by omega) hs hK1 (fun j S' h k2 c2=>hX j S' (by rw [ht2,List.all_cons,e,h];rfl) ?_ (hc1.trans c2)) (fun S' h c2=>hR S' (by rw [ht2,List.all_cons,h,Bool.and_false]) (hc1.trans c2))
   rw [hd,ht2]
   cases w
   ·exact k2
   exact k2
  refine qp J (qn (kq16 J) (kq3 J) (ecT J (er (pq2 J (qn (kq2 J) kn (eret (sqr (bqr (sqr ?_)))))))))
  have e:inR c t=false:=by
   unfold inR
   clear hX hR
   simp_all <;> omega
  exact hR _ (by rw [ht2,List.all_cons,e,Bfa]) (Chg.refl _)
 refine qp J (zq10 J (qp J (qn (kq16 J) (kq3 J) (ecT J (er (pq2 J (qn (kq2 J) kn (eret (sqr (bqr ?_))))))))))
 refine sqr ?_
 have e:inR c t=false:=by
  unfold inR
  clear hX hR
  simp_all <;> omega
 exact hR _ (by rw [ht2,List.all_cons,e,Bfa]) (Chg.refl _)
termination_by l.length - i
decreasing_by all_goals omega
theorem kTy_l1 {i0 i1:Nat} (c:Core) (nd:Node) (k:Nat) (xs as g0 g1:List Int) (hzx:xs.length ≤ 2 ^ 40) (hza:as.length ≤ 2 ^ 40) (X A:Int → Option Int) (i:Nat) (hi:i ≤ [xs,as].length) (hs:[xs,as].length ≤ 2 ^ 40) {n:Nat} {v:Nat → Bool} {D:List (Nat × List AV)} {S:Sg} {Q:Ex → Fr → Prop}
 (hK:KT c k i0 i1 X A S) (hX:∀ j S',(i=0 → sideOk c xs g0=true) → (i ≤ 1 → sideOk c as g1=true) → KT c k i0 i1 (if i=0 then bindL X xs g0 else X) (if i ≤ 1 then bindL A as g1 else A) S' → Chg (IXA i0 i1) S S' → Q (.exit 0) ⟨uv (uv (upd (upd (upd (uv (uv (uv (uv (uv e0 29 (B false)) 28 (I j)) 27 (I ([xs,as].map ints).length)) 26 (.slice .full 1 ([xs,as].map ints))) 12 (.ptr k 0)) 9 (some (.loc 9 0))) 8 (some (.loc 8 0))) 5 (some (.loc 5 0))) 2 (ints as)) 1 (ints xs),upd (upd (upd ((fun _=>none)) 9 (some (nd.cs))) 8 (some ([ints g0,ints g1]))) 5 (some (Core.cs c)),n,v,D,S'⟩)
 (hR:∀ S',(i=0 ∧ sideOk c xs g0=false) ∨ (i ≤ 1 ∧ sideOk c as g1=false) → Chg (IXA i0 i1) S S' → Q .ret ⟨uv (uv e0 11 (I 1)) 10 (I 0),(fun _=>none),n,v,D,S'⟩):EX (callL p) (.loop F7_l1) ⟨uv (uv (upd (upd (upd (uv (uv (uv (uv e0 28 (I i)) 27 (I ([xs,as].map ints).length)) 26 (.slice .full 1 ([xs,as].map ints))) 12 (.ptr k 0)) 9 (some (.loc 9 0))) 8 (some (.loc 8 0))) 5 (some (.loc 5 0))) 2 (ints as)) 1 (ints xs),upd (upd (upd ((fun _=>none)) 9 (some (nd.cs))) 8 (some ([ints g0,ints g1]))) 5 (some (Core.cs c)),n,v,D,S⟩ Q:=by
 refine eloop (er (qp J (qb ?_)))
 rintro (_ | _) h1
 refine qn (kq10 J) (kq3 J) (eseq (ecF J (eexit (sqx ?_))))
 have hi2:i=2:=by simp at h1 hi;omega
 subst hi2
 exact hX _ _ (fun h=>by omega) (fun h=>by omega) hK (Chg.refl _)
 refine qn (kq10 J) (kq3 J) (eseq (ecT J (eskip (sqn (eseq (eblock (er (qp J ?_))))))))
 have hlt:i < [xs,as].length:=by simp at h1 ⊢;omega
 obtain ⟨a,ha⟩:=get_of_lt hlt
 have hd:=drop_cons ha
 refine hia (y:=ints a) rfl rfl (by omega) (by show ([xs,as].map ints)[i]?=_;rw [Lgm,ha];rfl) rfl ?_
 refine pq3 J (qn (kq11 J) (kq3 J) (eseq (er ?_)))
 obtain ⟨w,rfl⟩:∃ w:Bool,i=w.toNat:=by
  rcases (show i=0 ∨ i=1 by simp at hlt;omega) with h | h
  ·exact ⟨false,h⟩
  exact ⟨true,h⟩
 obtain rfl:(if w=true then as else xs)=a:=by cases w <;> simpa using ha
 refine pq3 J ?_
 refine qp (t:=.loc 8 (0 + ((w.toNat:Nat):Int).toNat * 1)) (by cases w <;> rfl) ?_
 refine qp (t:=.val (ints (if w=true then g1 else g0))) (by cases w <;> rfl) ?_
 refine pq2 J (qb ?_)
 rintro (_ | _) h2
 refine qn (kq12 J) (kq3 J) (ecF J (eskip (sqn (er (pq3 J (qn (kq13 J) (kq3 J) (eblock ?_)))))))
 refine kTy_l2 c nd k xs as g0 g1 w _ _ X A (by cases w <;> (simp at h2 ⊢;omega)) rfl 0 (by omega) (by cases w;exact hzx;exact hza) hK ?_ ?_
 intro j2 S1 hj hK1 hc1
 refine bqx (bqn (sqn (ereg (hadd J J (i64w (by omega)) (qp J (qk (kq9 J) (kq3 J) ?_))))))
 have hg:(if w=true then g1 else g0).all (inR c)=true:=by simpa using hj
 have e:sideOk c (if w=true then as else xs) (if w=true then g1 else g0)=true:=by
  unfold sideOk
  rw [hg,Bool.and_true]
  cases w <;> (simp at h2 ⊢;omega)
 rw [List.drop_zero,List.drop_zero] at hK1
 refine kTy_l1 c nd k xs as g0 g1 hzx hza _ _ (w.toNat + 1) (by cases w <;> simp) hs hK1 (fun j S' a1 a2 k2 c2=>hX j S' ?_ ?_ ?_ (hc1.trans c2)) (fun S' h c2=>hR S' ?_ (hc1.trans c2))
 cases w
 intro _;exact e
 intro h;simp at h
 cases w
 intro _;exact a2 (by simp)
 intro _;exact e
 cases w
 simpa using k2
 simpa using k2
 cases w
 rcases h with h | h
 simp at h
 exact .inr ⟨by simp,h.2⟩
 rcases h with h | h
 simp at h
 simp at h
 intro S1 hj hc1
 refine bqr (bqr (sqr ?_))
 rotate_left
 refine qn (kq12 J) (kq3 J) (ecT J (er (pq2 J (qn (kq2 J) kn (eret (sqr (bqr (sqr ?_))))))))
 rotate_left
 all_goals
  first
  | (have hg:(if w=true then g1 else g0).all (inR c)=false:=by simpa using hj
     have e:sideOk c (if w=true then as else xs) (if w=true then g1 else g0)=false:=by
      unfold sideOk
      rw [hg,Bool.and_false]
     refine hR _ ?_ hc1
     cases w
     ·exact .inl ⟨rfl,e⟩
     exact .inr ⟨by simp,e⟩)
  | (have e:sideOk c (if w=true then as else xs) (if w=true then g1 else g0)=false:=by
      unfold sideOk
      rw [decide_eq_false,Bfa]
      cases w <;> (simp at h2 ⊢;omega)
     refine hR _ ?_ (Chg.refl _)
     cases w
     ·exact .inl ⟨rfl,e⟩
     exact .inr ⟨by simp,e⟩)
termination_by [xs,as].length - i
decreasing_by all_goals omega
def typeR (c:Core) (xs as g0 g1:List Int) (a:Node):List AV:=if coreOk c=true then (if askB c xs as g0 g1 a=true then (match tN c.decls c.funs a (bindL (fun _=>none) xs g0) (bindL (fun _=>none) as g1) with
 | some t=>[I t,I 0]
 | none=>[I 0,I 70]) else [I 0,I 1]) else [I 0,I 60]
theorem typeR_core {c:Core} {xs as g0 g1:List Int} {a:Node} (h:coreOk c=false):typeR c xs as g0 g1 a=[I 0,I 60]:=by unfold typeR;rw [h];rfl
theorem typeR_ask {c:Core} {xs as g0 g1:List Int} {a:Node} (h:coreOk c=true) (h2:¬ askB c xs as g0 g1 a=true):typeR c xs as g0 g1 a=[I 0,I 1]:=by unfold typeR;rw [if_pos h,if_neg h2]
theorem typeR_ok {c:Core} {xs as g0 g1:List Int} {a:Node} (h:coreOk c=true) (h2:askB c xs as g0 g1 a=true):typeR c xs as g0 g1 a=(match tN c.decls c.funs a (bindL (fun _=>none) xs g0) (bindL (fun _=>none) as g1) with
 | some t=>[I t,I 0]
 | none=>[I 0,I 70]):=by unfold typeR;rw [if_pos h,if_pos h2]
theorem ask_iff {c:Core} {xs as g0 g1:List Int} {a:Node}:askB c xs as g0 g1 a=true ↔ sideOk c xs g0=true ∧ sideOk c as g1=true ∧ vN c.decls c.funs a (setL (fun _=>false) xs) (setL (fun _=>false) as)=true ∧ nNodes a ≤ 30000 ∧ nDepth a ≤ 4000:=by
 simp only [askB,Bae,Dte]
 exact ⟨fun ⟨⟨⟨⟨h1,h2⟩,h3⟩,h4⟩,h5⟩=>⟨h1,h2,h3,h4,h5⟩,fun ⟨h1,h2,h3,h4,h5⟩=>⟨⟨⟨⟨h1,h2⟩,h3⟩,h4⟩,h5⟩⟩
theorem sortOf_of {ds:List Decl} {fs:List CFun} {a:Node} {X A:Int → Bool} (h:vN ds fs a X A=true):¬ sortOf a.op < 0:=by
 have:=op_range h
 unfold sortOf
 rw [if_neg (by omega)]
 split
 ·omega
 split <;> omega
theorem Type_c (s:Sg) (hQ:QOK s) (c:Core) (hc:CoreSz c) (hfv:∀ g ∈ c.funs,g.vars.length ≤ 2 ^ 40) (hbz:∀ g ∈ c.funs,g.body.sz ≤ 2 ^ 40) (xs as g0 g1:List Int) (nd:Node) (hzx:xs.length ≤ 2 ^ 40) (hza:as.length ≤ 2 ^ 40) (hz:nd.sz ≤ 2 ^ 40):HC p N7_ [.agg (Core.cs c),ints xs,ints as,.agg [ints g0,ints g1],.agg nd.cs] s (fun r s'=>r=typeR c xs as g0 g1 nd ∧ Ext s s'):=by
 refine hcf J f7_ J ?_
 simp only [chainOf]
 refine er (hbox (dq5 J) J (lq2 J) (hbox (dq6 J) J (lq2 J) (hbox (dq7 J) J (lq5 J) (pq2 J (qn (kq5 J) (kq3 J) (eseq (er (hlda J J (lq2 J) (hcall J J J (cValid_c _ hQ c hc hfv hbz) ?_)))))))))
 rintro _ S1 ⟨rfl,hx1⟩
 refine qb ?_
 rintro (_ | _) h1
 refine qp J (qn (kq6 J) (kq3 J) (ecT J (er (pq2 J (qn (kq2 J) kn (eret (sqr (fqr J ?_))))))))
 rotate_left
 refine qp J (qn (kq6 J) (kq3 J) (ecF J (eskip (sqn (er (hlda J J (lq2 J) (hcall J J J (newC_c _ c) ?_)))))))
 rintro _ S2 ⟨k,i0,i1,rfl,hK2,hx2,h02,h12,hk2⟩
 refine qp J (qn (kq6 J) (kq3 J) (eseq (er (pq2 J (hbsl J J (lq2 J) (pq2 J (qn (kq9 J) (kq3 J) (eblock ?_))))))))
 refine kTy_l1 c nd k xs as g0 g1 hzx hza _ _ 0 (by omega) (by simp) hK2 ?_ ?_
 intro j S3 s0 s1 hK3 hc3
 have hx3:Ext s S3:=hx1.trans ((hx2.chg.trans hc3).ext fun i h=>by rcases h with h | h <;> omega)
 refine bqx (sqn (eseq (er (pq2 J (hcall J J J (Sort_c _ _) ?_)))))
 rintro _ _ ⟨rfl,hq⟩
 obtain rfl:=hq.symm
 refine qp J (qb ?_)
 rintro (_ | _) h2
 refine qp J (qg J (hlda J J (lq2 J) (qg J (qp J (qg J (qp J (qg J (hlda J J (lq5 J) (qg J (hcall J J J (cIs_c _ c hc xs as nd hzx hza hz) ?_))))))))))
 rintro _ S4 ⟨b,rfl,hx4,hb⟩
 refine qb ?_
 rintro (_ | _) h3
 refine qg J (pq2 J (qn (kq3 J) (kq1 J) (ecT J (er (pq2 J (qn (kq2 J) kn (eret (sqr (fqr J ?_)))))))))
 rotate_left
 refine qg J (pq2 J (qn (kq3 J) (kq1 J) (ecF J (eskip (sqn (er ?_))))))
 have gb:b=true:=by assumption
 have hb1:=hb.1 gb
 have s0':=s0 rfl
 have s1':=s1 (by omega)
 have hk:askB c xs as g0 g1 nd=true:=ask_iff.2 ⟨s0',s1',hb1.1,hb1.2.1,hb1.2.2⟩
 simp only [sideOk,Bae,Dte] at s0' s1'
 have hK4:=hK3.keep (hx4.chg (X:=fun _=>False)) id id id
 rw [if_pos rfl,if_pos (by omega)] at hK4
 have hx4':Ext s S1:=hx1
 have hvn:vN c.decls c.funs nd (dom (bindL (fun _=>none) xs g0)) (dom (bindL (fun _=>none) as g1))=true:=by
  rw [dom_bindL _ _ _ s0'.1,dom_bindL _ _ _ s1'.1]
  exact hb1.1
 refine qp J (hlda J J (lq5 J) (hcall J J J (typ_c c hc nd hz _ k i0 i1 _ _ hK4 hvn) ?_))
 rintro _ S5 ⟨t,b5,rfl,ho,hK5,hc5⟩
 have hx5:Ext s S5:=hx4'.trans ((hx2.chg.trans (hc3.trans (hx4.chg.trans hc5))).ext fun i h=>by rcases h with h | h <;> omega)
 refine pq3 J (qb ?_)
 rintro (_ | _) h4
 refine pq2 J (qn (kq2 J) kn (eseq (er (pq2 J (qn (kq2 J) kn (ecT J (er (pq2 J (qn (kq2 J) kn (eret (sqr (fqr J ?_))))))))))))
 rotate_left
 refine pq2 J (qn (kq2 J) kn (eseq (er (pq2 J (qn (kq2 J) kn (ecF J (eskip (sqn (er (pq3 J (qn (kq2 J) kn (eret (fqr J ?_)))))))))))))
 rotate_left
 refine qp J (zq6 J (qp J (qn (kq3 J) (kq1 J) (ecT J (er (pq2 J (qn (kq2 J) kn (eret (sqr (fqr J ?_))))))))))
 rotate_left
 intro S3 hs hc3
 have hx3:Ext s S3:=hx1.trans ((hx2.chg.trans hc3).ext fun i h=>by rcases h with h | h <;> omega)
 refine bqr (sqr (fqr J ?_))
 rotate_left
 all_goals
  first
  | (have g:coreOk c=false:=by assumption
     exact ⟨(typeR_core g).symm,hx1⟩)
  | (have g:coreOk c=true:=by assumption
     have g5:b5=true:=by assumption
     refine ⟨?_,hx5⟩
     rw [typeR_ok g hk,← ho,g5]
     rfl)
  | (have g:coreOk c=true:=by assumption
     have g5:b5=false:=by assumption
     refine ⟨?_,hx5⟩
     rw [typeR_ok g hk,← ho,g5]
     rfl)
  | (have g:coreOk c=true:=by assumption
     have gb:b=false:=by assumption
     refine ⟨(typeR_ask g fun q=>?_).symm,hx3.trans hx4⟩
     have q2:=ask_iff.1 q
     rw [hb.2 ⟨q2.2.2.1,q2.2.2.2⟩] at gb
     cases gb)
  | (have g:coreOk c=true:=by assumption
     have gb:decide (sortOf nd.op < 0)=true:=by assumption
     refine ⟨(typeR_ask g fun q=>?_).symm,hx3⟩
     exact sortOf_of (ask_iff.1 q).2.2.1 (Odt gb))
  | (have g:coreOk c=true:=by assumption
     refine ⟨(typeR_ask g fun q=>?_).symm,hx3⟩
     have q2:=ask_iff.1 q
     rcases hs with h | h
     ·rw [q2.1] at h;cases h.2
     rw [q2.2.1] at h;cases h.2)
structure SzC (c:Core):Prop where
 z:c.sz ≤ 2 ^ 40
 hc:CoreSz c
 fv:∀ g ∈ c.funs,g.vars.length ≤ 2 ^ 40
 bz:∀ g ∈ c.funs,g.body.sz ≤ 2 ^ 40
 fl:c.funs.length ≤ 2 ^ 40
 fz:szL CFun.sz c.funs ≤ 2 ^ 40
theorem SzC.of {c:Core} (h:c.sz ≤ 2 ^ 40):SzC c:=by
 unfold Core.sz at h
 have hd:c.decls.length ≤ szL Decl.sz c.decls:=szL_len fun d=>by unfold Decl.sz;omega
 have hf:c.funs.length ≤ szL CFun.sz c.funs:=szL_len CFun.sz_pos
 have hg:∀ g ∈ c.funs,g.sz ≤ 2 ^ 40:=fun g hg=>by have:=szL_mem (f:=CFun.sz) hg;omega
 refine ⟨by unfold Core.sz;omega,⟨by omega,fun d hd x hx=>?_,fun g hg'=>?_⟩,fun g hg'=>?_,fun g hg'=>?_,by omega,by omega⟩
 ·have h1:=szL_mem (f:=Decl.sz) hd
  have h2:=szL_mem (f:=Xtor.sz) hx
  have e1:d.sz=1 + d.name.size + szL Xtor.sz d.xtors:=rfl
  have e2:x.sz=1 + x.name.size + x.args.length:=rfl
  omega
 ·have:=hg g hg';unfold CFun.sz at this;omega
 ·have:=hg g hg';unfold CFun.sz at this;omega
 have:=hg g hg';unfold CFun.sz at this;omega
theorem QOK.ext {s s':Sg} (h:QOK s) (e:Ext s s'):QOK s':=by
 unfold QOK
 rw [e.Q]
 exact h
def listD:Decl:=⟨⟨#[108,105,115,116]⟩,false,[⟨⟨#[78,105,108]⟩,[]⟩]⟩
def doneN:Node:=.mk 7 0 0 [.mk 14 0 0 [.mk 0 0 0 [] []] []] []
def doneF:List AV:=[I 7,I 0,I 0,.slice .full 5 [.agg [I 14,I 0,I 0,SL 5 [.agg [I 0,I 0,I 0,SL 5 [],SL 7 []]],SL 7 []]],.slice .full 7 []]
theorem doneF_er:(AV.agg doneF).er=.agg doneN.cs:=by
 show _=AV.agg [I 7,I 0,I 0,SL 5 [(Node.mk 14 0 0 [.mk 0 0 0 [] []] []).enc],SL 7 []]
 rw [Node.enc_eq]
 show _=AV.agg [I 7,I 0,I 0,SL 5 [.agg [I 14,I 0,I 0,SL 5 [(Node.mk 0 0 0 [] []).enc],SL 7 []]],SL 7 []]
 rw [Node.enc_eq]
 rfl
def cutP (x:Node):Core:=⟨[listD],[⟨⟨#[109,97,105,110]⟩,[],[],.mk 9 0 0 [x,doneN] []⟩]⟩
theorem awc1_c (s:Sg) (o:Own) (q1 q2:Nat) (x:Node) (h1:s.ob q1=some (.row [.slice o 3 [listD.enc]])) (h2:s.ob q2=some (.row doneF)):HC p N12_ [.agg x.cs,.ptr q1 0,.ptr q2 0] s (fun r s'=>r=[.agg (Core.cs (cutP x))] ∧ s'=s):=by
 refine hcf J f12_ J ?_
 simp only [chainOf]
 refine er (hbox (dq3 J) J (lq5 J) (hal (dq4 J) (qn (kq4 J) (kq2 J) (er (hldo J h1 J ?_)))))
 refine hlda J J (lq5 J) (hldo J h2 J ?_)
 refine hbsl J J (lq2 J) (hbuild J J (lq5 J) (hbuild J J (lq8 J) (hbsl J J (lq1 J) (hbuild J J (lq2 J) (hstl J J J J (Nlb J) (lq2 J) (qn (kq1 J) (kq1 J) (eret (fqr J ?_))))))))
 refine ⟨?_,J⟩
 have e:(Node.mk 9 0 0 [x,doneN] []).cs=[I 9,I 0,I 0,SL 5 [.agg x.cs,.agg doneN.cs],SL 7 []]:=by
  show [I 9,I 0,I 0,SL 5 [x.enc,doneN.enc],SL 7 []]=_
  rw [Node.enc_eq x,Node.enc_eq doneN]
 simp only [Core.cs,cutP,List.map_cons,List.map_nil,CFun.enc_eq]
 rw [e,← doneF_er]
 rfl
theorem aw_type:typeR (cutP (.mk 1 3 0 [] [])) [4,4] [] [0,1] [] (.mk 0 4 0 [] [])=[I 1,I 0]:=by rfl
theorem aw_check1:(if coreOk (cutP (.mk 1 3 0 [] []))=true then (if typedOk2 (cutP (.mk 1 3 0 [] []))=true then (0:Int) else 70) else 60)=0:=by rfl
theorem aw_check2:(if coreOk (cutP (.mk 2 0 1 [] []))=true then (if typedOk2 (cutP (.mk 2 0 1 [] []))=true then (0:Int) else 70) else 60)=70:=by rfl
theorem h_gen {c:Caller} {l:List AIns} {E:Nat → Option TV} {L:Nat → Option (List AV)} {n:Nat} {v:Nat → Bool} {D:List (Nat × List AV)} {S S':Sg} {Q:Fr → Prop} (e:S=S') (h:HL c l ⟨E,L,n,v,D,S'⟩ Q):HL c l ⟨E,L,n,v,D,S⟩ Q:=by
 subst e;exact h
theorem awake_c (s:Sg) (hQ:QOK s):HC p N6_ [] s (fun r s'=>r=[B true] ∧ Ext s s'):=by
 have z1:=SzC.of (c:=cutP (.mk 1 3 0 [] [])) (by decide)
 have z2:=SzC.of (c:=cutP (.mk 2 0 1 [] [])) (by decide)
 refine hcf J f6_ J ?_
 simp only [chainOf]
 refine eseq (ereg (qp rfl (qk kn kn (sqn (eseq (ereg (hbuild rfl rfl (lc rfl (lc rfl (ln rfl))) (hbsl rfl rfl (lc rfl (ln rfl)) (hbuild rfl rfl (lc rfl (lc rfl (lc rfl (ln rfl)))) (hbsl rfl rfl (lc rfl (ln rfl)) (hall (hsto (cs':=[.slice .full 3 [listD.enc]]) rfl rfl new_ob rfl (Nlb rfl) (by simp) (by rfl) (qk (kc rfl kn) kn (sqn (eseq (ereg (hbuild rfl rfl (lc rfl (lc rfl (lc rfl (lc rfl (lc rfl (ln rfl)))))) (hbsl rfl rfl (lc rfl (ln rfl)) (hbuild rfl rfl (lc rfl (lc rfl (lc rfl (lc rfl (lc rfl (ln rfl)))))) (hbsl rfl rfl (lc rfl (ln rfl)) (hbuild rfl rfl (lc rfl (lc rfl (lc rfl (lc rfl (lc rfl (ln rfl)))))) (hall (hsto (cs':=doneF) rfl rfl new_ob rfl (Nlb rfl) (by simp) (by rfl) ?_)))))))))))))))))))))))
 have o1:((((s.new (.row [.slice .full 3 []])).set s.nx (.row [.slice .full 3 [listD.enc]])).new (.row [.lit (.int .i64 0),.lit (.int .i64 0),.lit (.int .i64 0),.slice .full 5 [],.slice .full 7 []])).set (s.nx + 1) (.row doneF)).ob s.nx=some (.row [.slice .full 3 [listD.enc]]):=by
  rw [set_ne (by omega),new_lt (by show s.nx < s.nx + 1;omega),set_ob]
 have o2:((((s.new (.row [.slice .full 3 []])).set s.nx (.row [.slice .full 3 [listD.enc]])).new (.row [.lit (.int .i64 0),.lit (.int .i64 0),.lit (.int .i64 0),.slice .full 5 [],.slice .full 7 []])).set (s.nx + 1) (.row doneF)).ob (s.nx + 1)=some (.row doneF):=set_ob
 have x0:Ext s ((((s.new (.row [.slice .full 3 []])).set s.nx (.row [.slice .full 3 [listD.enc]])).new (.row [.lit (.int .i64 0),.lit (.int .i64 0),.lit (.int .i64 0),.slice .full 5 [],.slice .full 7 []])).set (s.nx + 1) (.row doneF)):=(((Ext.new).set (Nat.le_refl _)).trans Ext.new).set (by omega)
 have n0:s.nx + 1 < ((((s.new (.row [.slice .full 3 []])).set s.nx (.row [.slice .full 3 [listD.enc]])).new (.row [.lit (.int .i64 0),.lit (.int .i64 0),.lit (.int .i64 0),.slice .full 5 [],.slice .full 7 []])).set (s.nx + 1) (.row doneF)).nx:=by show s.nx + 1 < s.nx + 2;omega
 refine h_gen (S':=(((s.new (.row [.slice .full 3 []])).set s.nx (.row [.slice .full 3 [listD.enc]])).new (.row [.lit (.int .i64 0),.lit (.int .i64 0),.lit (.int .i64 0),.slice .full 5 [],.slice .full 7 []])).set (s.nx + 1) (.row doneF)) rfl ?_
 generalize ((((s.new (.row [.slice .full 3 []])).set s.nx (.row [.slice .full 3 [listD.enc]])).new (.row [.lit (.int .i64 0),.lit (.int .i64 0),.lit (.int .i64 0),.slice .full 5 [],.slice .full 7 []])).set (s.nx + 1) (.row doneF))=S0 at o1 o2 x0 n0 ⊢
 have hQ1:=hQ.ext x0
 refine qn (kq2 J) kn (er (pq2 J (qn (kq1 J) kn (er (qp J (hbuild J J (lq5 J) (hcall J J J (awc1_c _ .full s.nx (s.nx + 1) (.mk 1 3 0 [] []) o1 o2) ?_)))))))
 rintro _ _ ⟨rfl,hq⟩
 obtain rfl:=hq.symm
 refine hal (dq4 J) (hstl J J J J (Nlb J) (lq2 J) (qn (kq2 J) (kq1 J) (er (hlda J J (lq2 J) (hbsl J J (lq2 J) (hbsl J J (lq2 J) (hbuild J J (lq2 J) (hbuild J J (lq5 J) (hcall J J J (Type_c _ hQ1 (cutP (.mk 1 3 0 [] [])) z1.hc z1.fv z1.bz [4,4] [] [0,1] [] (.mk 0 4 0 [] []) (by decide) (by decide) (by decide)) ?_)))))))))
 rintro _ S1 ⟨rfl,hx1⟩
 rw [aw_type]
 refine pq5 J (qn (kq4 J) (kq1 J) (er (hlda J J (lq2 J) (hcall J J J (Check_c _ (hQ1.ext hx1) (cutP (.mk 1 3 0 [] [])) z1.hc z1.fv z1.bz z1.fl) ?_))))
 rintro _ S2 ⟨rfl,hx2⟩
 rw [aw_check1]
 refine qp J (qb ?_)
 rintro (_ | _) h1
 refine qp J (zq5 J (pq2 J (zq2 J (pq2 J (zq2 J (pq2 J (qn (kq1 J) kn (eret (fqr J ?_)))))))))
 rotate_left
 refine qp rfl (qg rfl (qp rfl (qg rfl (hbuild rfl rfl (lc rfl (lc rfl (lc rfl (lc rfl (lc rfl (ln rfl)))))) (qg rfl (hcall rfl rfl rfl (awc1_c _ .full s.nx (s.nx + 1) (.mk 2 0 1 [] []) ((hx2.ob _ (by have:=hx1.nx;omega)).trans ((hx1.ob _ (by omega)).trans o1)) ((hx2.ob _ (by have:=hx1.nx;omega)).trans ((hx1.ob _ (by omega)).trans o2))) ?_))))))
 rintro _ _ ⟨rfl,hq⟩
 obtain rfl:=hq.symm
 refine qg J (hcall J J J (Check_c _ ((hQ1.ext hx1).ext hx2) (cutP (.mk 2 0 1 [] [])) z2.hc z2.fv z2.bz z2.fl) ?_)
 rintro _ S3 ⟨rfl,hx3⟩
 rw [aw_check2]
 refine qg J (qp J (qb ?_))
 rintro (_ | _) h2
 refine pq2 J (zq2 J (pq2 J (zq2 J (pq2 J (qn (kq1 J) kn (eret (fqr J ?_)))))))
 rotate_left
 refine pq2 J (qg J (qp J (qg J (qp J (qb ?_)))))
 rintro (_ | _) h3
 refine pq2 J (zq2 J (pq2 J (qn (kq1 J) kn (eret (fqr J ?_)))))
 rotate_left
 refine pq2 J (qg J (qp J (qg J (pq3 J (qn (kq1 J) kn (eret (fqr J ?_)))))))
 rotate_left
 all_goals
  first
  | exact ⟨rfl,x0.trans (hx1.trans (hx2.trans hx3))⟩
  | (exfalso;simp at h1;done)
  | (exfalso;simp at h2;done)
  | (exfalso;simp at h3;done)
theorem Xtor.sz_args (x:Xtor):x.args.length < x.sz:=by unfold Xtor.sz;omega
def CanM (n0:Nat) (o:Own) (v:Nat → Bool) (n:Nat):Prop:=o=.full ∨ ∃ t,o=.tip t ∧ n0 ≤ t ∧ t < n ∧ v t=true
theorem CanM.can {n0 n:Nat} {o:Own} {v:Nat → Bool} (h:CanM n0 o v n):Can o v:=by
 rcases h with rfl | ⟨t,rfl,_,_,h⟩
 ·trivial
 exact h
theorem CanM.up {n0 n n1:Nat} {o:Own} {v v1:Nat → Bool} (h:CanM n0 o v n) (hn:n ≤ n1) (hv:∀ t,t < n → v1 t=v t):CanM n0 o v1 n1:=by
 rcases h with rfl | ⟨t,rfl,h1,h2,h3⟩
 ·exact .inl rfl
 exact .inr ⟨t,rfl,h1,by omega,by rw [hv t h2];exact h3⟩
theorem CanM.new {n0 n:Nat} {v:Nat → Bool} (h:Can (.tip n) v) (hn:n0 ≤ n):CanM n0 (.tip n) v (n + 1):=.inr ⟨n,rfl,hn,by omega,h⟩
theorem CanM.old {n0 n:Nat} {o:Own} {v v':Nat → Bool} (h:CanM n0 o v n) (hn:n0 ≤ n) (hv:∀ t,t ≠ n → o ≠ .tip t → v' t=v t):∀ t,t < n0 → v' t=v t:=fun t ht=>by
 refine hv t (by omega) fun e=>?_
 rcases h with rfl | ⟨t',rfl,h1,_,_⟩
 ·cases e
 cases e;omega
theorem hapK {c:Caller} {l:List AIns} {E:Nat → Option TV} {L:Nat → Option (List AV)} {n:Nat} {v:Nat → Bool} {D:List (Nat × List AV)} {S:Sg} {Q:Fr → Prop} {d sz by_:Nat} {s x:AO} {o':Own} {ys:List AV}
 (h1:evV E s=some (.slice .full sz [])) (h2:evV E x=some (.slice o' sz ys)) (hlen:ys.length * by_ ≤ 2 ^ 47)
 (k:∀ o1 n1 v1,n ≤ n1 → (∀ t,t < n → v1 t=v t) → HL c l ⟨upd E d (some (.val (.slice o1 sz ys))),L,n1,v1,D,S⟩ Q):HL c (⟨some d,none,.app sz by_ s x⟩ :: l) ⟨E,L,n,v,D,S⟩ Q:=by
 cases ys with
 | nil=>exact hap0 h1 h2 rfl (k .full n v (Nat.le_refl _) fun _ _=>rfl)
 | cons y ys=>exact hapF h1 h2 (by simp) (by simpa using hlen) fun v' a b=>k (.tip n) (n + 1) v' (by omega) fun t ht=>b t (by omega)
end Go.Sim.Kd
namespace Go.Sim.Kd
open Go Go.Sim
def bnd (w:Bool):List Int → List Bool → Int → Bool
 | [],_,_=>false
 | x :: xs,cs,v=>(decide (v=x) && decide (cs.headD false=w)) || bnd w xs cs.tail v
def muB (op n:Int) (w:Bool) (v:Int):Bool:=decide ((op=3 ∧ w=true ∨ op=7 ∧ w=false) ∧ v=n)
mutual
def frN:Node → Bool → Int → Bool
 | .mk op n _ args brs,w,v=>if op=0 ∨ op=5 then decide (w=decide (op=5) ∧ v=n) else if op=1 then false else (frNs args w v && !muB op n w v) || frBs brs w v
def frNs:List Node → Bool → Int → Bool
 | [],_,_=>false
 | a :: as,w,v=>frN a w v || frNs as w v
def frB:Br → Bool → Int → Bool
 | .mk vars co body,w,v=>frN body w v && !bnd w vars co v
def frBs:List Br → Bool → Int → Bool
 | [],_,_=>false
 | b :: bs,w,v=>frB b w v || frBs bs w v
end
theorem frN_eq (a:Node) (w:Bool) (v:Int):frN a w v=if a.op=0 ∨ a.op=5 then decide (w=decide (a.op=5) ∧ v=a.n) else if a.op=1 then false else (frNs a.args w v && !muB a.op a.n w v) || frBs a.brs w v:=by
 cases a
 rw [frN]
 rfl
theorem frB_eq (b:Br) (w:Bool) (v:Int):frB b w v=(frN b.body w v && !bnd w b.vars b.co v):=by
 cases b
 rw [frB]
 rfl
theorem frNs_mem {l:List Node} {w:Bool} {v:Int}:frNs l w v=true ↔ ∃ b ∈ l,frN b w v=true:=by
 induction l with
 | nil=>simp [frNs]
 | cons a l ih=>simp [frNs,ih]
theorem frBs_mem {l:List Br} {w:Bool} {v:Int}:frBs l w v=true ↔ ∃ b ∈ l,frB b w v=true:=by
 induction l with
 | nil=>simp [frBs]
 | cons a l ih=>simp [frBs,ih]
theorem addsV_bnd (w:Bool):∀ (vs:List Int) (cs:List Bool) (X:Int → Bool) (v:Int),addsV w X vs cs v=(bnd w vs cs v || X v)
 | [],cs,X,v=>by simp [addsV,bnd]
 | x :: xs,cs,X,v=>by
   rw [addsV,addsV_bnd w xs,bnd]
   by_cases h:cs.headD false=w
   ·rw [if_pos h,addV,decide_eq_true h]
    cases decide (v=x) <;> cases bnd w xs cs.tail v <;> cases X v <;> rfl
   rw [if_neg h,decide_eq_false h]
   cases decide (v=x) <;> rfl
abbrev VN (ds:List Decl) (fs:List CFun) (a:Node) (X:Bool → Int → Bool):Prop:=vN ds fs a (X false) (X true)=true
abbrev TN (ds:List Decl) (fs:List CFun) (a:Node) (G:Bool → Int → Option Int):Option Int:=tN ds fs a (G false) (G true)
def domG (G:Bool → Int → Option Int) (w:Bool):Int → Bool:=dom (G w)
def muS (op n:Int) (X:Bool → Int → Bool) (w:Bool) (v:Int):Bool:=muB op n w v || X w v
def muG (op n ty:Int) (G:Bool → Int → Option Int) (w:Bool) (v:Int):Option Int:=if muB op n w v=true then some ty else G w v
def bndS (vs:List Int) (cs:List Bool) (X:Bool → Int → Bool) (w:Bool):Int → Bool:=addsV w (X w) vs cs
def bndG (vs:List Int) (as:List Arg) (G:Bool → Int → Option Int) (w:Bool):Int → Option Int:=bindsT w (G w) vs as
theorem muS_f (op n:Int) (X:Bool → Int → Bool):muS op n X false=if op=7 then addV (X false) n else X false:=by
 funext v
 simp only [muS,muB]
 by_cases h:op=7 <;> by_cases hv:v=n <;> simp [h,hv,addV]
theorem muS_t (op n:Int) (X:Bool → Int → Bool):muS op n X true=if op=3 then addV (X true) n else X true:=by
 funext v
 simp only [muS,muB]
 by_cases h:op=3 <;> by_cases hv:v=n <;> simp [h,hv,addV]
theorem muG_f (op n ty:Int) (G:Bool → Int → Option Int):muG op n ty G false=if op=7 then bindT (G false) n ty else G false:=by
 funext v
 simp only [muG,muB]
 by_cases h:op=7 <;> by_cases hv:v=n <;> simp [h,hv,setT]
theorem muG_t (op n ty:Int) (G:Bool → Int → Option Int):muG op n ty G true=if op=3 then bindT (G true) n ty else G true:=by
 funext v
 simp only [muG,muB]
 by_cases h:op=3 <;> by_cases hv:v=n <;> simp [h,hv,setT]
theorem dom_mu (op n ty:Int) (G:Bool → Int → Option Int):domG (muG op n ty G)=muS op n (domG G):=by
 funext w v
 simp only [domG,dom,muG,muS]
 cases muB op n w v <;> simp
theorem dom_bnd {vs:List Int} {as:List Arg} (G:Bool → Int → Option Int) (h:vs.length=as.length):domG (bndG vs as G)=bndS vs (as.map fun a=>a.co) (domG G):=by
 funext w
 exact dom_binds w vs as (G w) h
def varOk (a:Node) (X:Bool → Int → Bool):Prop:=a.op=0 ∨ a.op=5 → X (decide (a.op=5)) a.n=true
theorem VN_iff {ds:List Decl} {fs:List CFun} {a:Node} {X:Bool → Int → Bool}:VN ds fs a X ↔ ∃ want xs,headOf ds fs a.op a.n a.ty=some (want,xs) ∧ varOk a X ∧
 vNs ds fs a.args want (muS a.op a.n X false) (muS a.op a.n X true)=true ∧ vBs ds fs a.brs xs (X false) (X true)=true:=by
 rw [VN,vN_eq,muS_f,muS_t]
 cases hh:headOf ds fs a.op a.n a.ty with
 | none=>simp
 | some q =>
   obtain ⟨want,xs⟩:=q
   have e:(if a.op=0 then X false a.n else if a.op=5 then X true a.n else true)=true ↔ varOk a X:=by
    unfold varOk
    by_cases h0:a.op=0
    ·simp [h0]
    by_cases h5:a.op=5
    ·simp [h5]
    simp [h0,h5]
   simp only [Bae,e,and_assoc]
   constructor
   ·exact fun h=>⟨want,xs,rfl,h⟩
   rintro ⟨_,_,h,k⟩
   cases h
   exact k
theorem head_leaf {ds:List Decl} {fs:List CFun} {op n ty:Int} {want:List Int} {xs:List Xtor} (e:op=0 ∨ op=5 ∨ op=1) (hh:headOf ds fs op n ty=some (want,xs)):want=[] ∧ xs=[]:=by
 unfold headOf at hh
 by_cases h:op=0 ∨ op=5
 ·rw [if_pos h] at hh
  split at hh <;> simp at hh
  exact hh
 rw [if_neg h,if_pos (by omega)] at hh
 split at hh <;> simp at hh
 exact hh
theorem leaf_nil {ds:List Decl} {fs:List CFun} {a:Node} {X:Bool → Int → Bool} (h:VN ds fs a X) (e:a.op=0 ∨ a.op=5 ∨ a.op=1):a.args=[] ∧ a.brs=[]:=by
 obtain ⟨want,xs,hh,_,h1,h2⟩:=VN_iff.1 h
 obtain ⟨rfl,rfl⟩:=head_leaf e hh
 refine ⟨?_,?_⟩
 ·cases ha:a.args with
  | nil=>rfl
  | cons _ _=>rw [ha] at h1;simp [vNs] at h1
 cases ha:a.brs with
 | nil=>rfl
 | cons _ _=>rw [ha] at h2;simp [vBs] at h2
theorem fr_arg {ds:List Decl} {fs:List CFun} {a b:Node} {X:Bool → Int → Bool} (h:VN ds fs a X) (hb:b ∈ a.args) {w:Bool} {v:Int} (hf:frN b w v=true) (hm:muB a.op a.n w v=false):frN a w v=true:=by
 have lf:¬ (a.op=0 ∨ a.op=5 ∨ a.op=1):=fun e=>by rw [(leaf_nil h e).1] at hb;cases hb
 rw [frN_eq,if_neg (by omega),if_neg (by omega),hm]
 simp [frNs_mem.2 ⟨b,hb,hf⟩]
theorem fr_br {ds:List Decl} {fs:List CFun} {a:Node} {b:Br} {X:Bool → Int → Bool} (h:VN ds fs a X) (hb:b ∈ a.brs) {w:Bool} {v:Int} (hf:frN b.body w v=true) (hm:bnd w b.vars b.co v=false):frN a w v=true:=by
 have lf:¬ (a.op=0 ∨ a.op=5 ∨ a.op=1):=fun e=>by rw [(leaf_nil h e).2] at hb;cases hb
 rw [frN_eq,if_neg (by omega),if_neg (by omega)]
 have:frBs a.brs w v=true:=frBs_mem.2 ⟨b,hb,by rw [frB_eq,hf,hm];rfl⟩
 simp [this]
theorem VN_congr {ds:List Decl} {fs:List CFun} (a:Node):∀ {X X':Bool → Int → Bool},(∀ w v,frN a w v=true → X w v=X' w v) → VN ds fs a X → VN ds fs a X':=by
 induction a using Node.ind with
 | h a ih1 ih2 =>
   intro X X' hX h
   obtain ⟨want,xs,hh,hv,h1,h2⟩:=VN_iff.1 h
   refine VN_iff.2 ⟨want,xs,hh,fun e=>?_,?_,?_⟩
   ·rw [← hX _ a.n (by rw [frN_eq,if_pos e];simp)]
    exact hv e
   ·have:∀ (l:List Node),(∀ b ∈ l,b ∈ a.args) → ∀ ws,vNs ds fs l ws (muS a.op a.n X false) (muS a.op a.n X true)=true → vNs ds fs l ws (muS a.op a.n X' false) (muS a.op a.n X' true)=true:=by
     intro l
     induction l with
     | nil=>intro _ ws h;cases ws <;> simp [vNs] at h ⊢
     | cons b l ih =>
       intro hl ws h'
       cases ws with
       | nil=>simp [vNs] at h'
       | cons wt ws =>
         simp only [vNs,Bae] at h' ⊢
         refine ⟨⟨h'.1.1,ih1 b (hl b (by simp)) (X:=muS a.op a.n X) (X':=muS a.op a.n X') (fun w v hf=>?_) h'.1.2⟩,ih (fun b hb=>hl b (by simp [hb])) ws h'.2⟩
         simp only [muS]
         cases hm:muB a.op a.n w v with
         | true=>rfl
         | false=>rw [hX w v (fr_arg h (hl b (by simp)) hf hm)]
    exact this a.args (fun _ h=>h) want h1
   have:∀ (l:List Br),(∀ b ∈ l,b ∈ a.brs) → ∀ ws,vBs ds fs l ws (X false) (X true)=true → vBs ds fs l ws (X' false) (X' true)=true:=by
    intro l
    induction l with
    | nil=>intro _ ws h;cases ws <;> simp [vBs] at h ⊢
    | cons b l ih =>
      intro hl ws h'
      cases ws with
      | nil=>simp [vBs] at h'
      | cons wt ws =>
        simp only [vBs,Bae] at h' ⊢
        refine ⟨?_,ih (fun b hb=>hl b (by simp [hb])) ws h'.2⟩
        have h3:=h'.1
        rw [vB_eq] at h3 ⊢
        simp only [Bae] at h3 ⊢
        refine ⟨h3.1,ih2 b (hl b (by simp)) (X:=bndS b.vars b.co X) (X':=bndS b.vars b.co X') (fun w v hf=>?_) h3.2⟩
        simp only [bndS]
        rw [addsV_bnd,addsV_bnd]
        cases hm:bnd w b.vars b.co v with
        | true=>rfl
        | false=>rw [hX w v (fr_br h (hl b (by simp)) hf hm)]
   exact this a.brs (fun _ h=>h) xs h2
theorem bindsT_bnd (w:Bool):∀ (vs:List Int) (as:List Arg) (X X':Int → Option Int) (v:Int),vs.length=as.length → (bnd w vs (as.map fun a=>a.co) v=false → X v=X' v) → bindsT w X vs as v=bindsT w X' vs as v
 | [],_,X,X',v,_,h=>by simpa [bindsT] using h rfl
 | _ :: _,[],_,_,_,h,_=>by simp at h
 | x :: xs,a :: as,X,X',v,hl,h=>by
   rw [bindsT,bindsT]
   refine bindsT_bnd w xs as _ _ v (by simpa using hl) fun hb=>?_
   by_cases hw:a.co=w
   ·rw [if_pos hw,if_pos hw]
    by_cases hv:v=x
    ·simp [setT,hv]
    simp only [setT,if_neg hv]
    exact h (by simp [bnd,hv,hb])
   rw [if_neg hw,if_neg hw]
   exact h (by simp [bnd,hw,hb])
theorem TN_congr {ds:List Decl} {fs:List CFun} (a:Node):∀ {X:Bool → Int → Bool} {G G':Bool → Int → Option Int},VN ds fs a X → (∀ w v,frN a w v=true → G w v=G' w v) → TN ds fs a G=TN ds fs a G':=by
 induction a using Node.ind with
 | h a ih1 ih2 =>
   intro X G G' h hG
   obtain ⟨want,xs,hh,hv,h1,h2⟩:=VN_iff.1 h
   have c1:∀ ws,tNs ds fs a.args ws (muG a.op a.n a.ty G false) (muG a.op a.n a.ty G true)=tNs ds fs a.args ws (muG a.op a.n a.ty G' false) (muG a.op a.n a.ty G' true):=by
    have:∀ (l:List Node),(∀ b ∈ l,b ∈ a.args) → ∀ ws,tNs ds fs l ws (muG a.op a.n a.ty G false) (muG a.op a.n a.ty G true)=tNs ds fs l ws (muG a.op a.n a.ty G' false) (muG a.op a.n a.ty G' true):=by
     intro l
     induction l with
     | nil=>intro _ ws;cases ws <;> rfl
     | cons b l ih =>
       intro hl ws
       cases ws with
       | nil=>rfl
       | cons wt ws =>
         have e:=ih1 b (hl b (by simp)) (X:=muS a.op a.n X) (G:=muG a.op a.n a.ty G) (G':=muG a.op a.n a.ty G') (vNs_mem h1 b (hl b (by simp))) (fun w v hf=>by
          simp only [muG]
          cases hm:muB a.op a.n w v with
          | true=>rfl
          | false=>rw [hG w v (fr_arg h (hl b (by simp)) hf hm)])
         simp only [TN] at e
         simp only [tNs,e,ih (fun b hb=>hl b (by simp [hb])) ws]
    exact this a.args fun _ h=>h
   have c2:∀ ys:List Xtor,(∀ (i:Nat) (b:Br) (x:Xtor),a.brs[i]?=some b → ys[i]?=some x → vB ds fs b x (X false) (X true)=true) → tBs ds fs a.brs ys (G false) (G true)=tBs ds fs a.brs ys (G' false) (G' true):=by
    have:∀ (l:List Br),(∀ b ∈ l,b ∈ a.brs) → ∀ ys:List Xtor,(∀ (i:Nat) (b:Br) (x:Xtor),l[i]?=some b → ys[i]?=some x → vB ds fs b x (X false) (X true)=true) → tBs ds fs l ys (G false) (G true)=tBs ds fs l ys (G' false) (G' true):=by
     intro l
     induction l with
     | nil=>intro _ ys _;cases ys <;> rfl
     | cons b l ih =>
       intro hl ys hy
       cases ys with
       | nil=>rfl
       | cons x ys =>
         have hb:=hy 0 b x rfl rfl
         rw [vB_eq] at hb
         simp only [Bae,Dte] at hb
         obtain ⟨⟨⟨⟨b1,b2⟩,b3⟩,b4⟩,b5⟩:=hb
         have e:=ih2 b (hl b (by simp)) (X:=bndS b.vars b.co X) (G:=bndG b.vars x.args G) (G':=bndG b.vars x.args G') b5 (fun w v hf=>bindsT_bnd w _ _ _ _ v b1 fun hm=>hG w v (fr_br h (hl b (by simp)) hf (by rw [b2];exact hm)))
         simp only [TN,bndG] at e
         simp only [tBs,tB_eq,e,ih (fun b hb=>hl b (by simp [hb])) ys fun i b x h1 h2=>hy (i + 1) b x (by simpa using h1) (by simpa using h2)]
    exact this a.brs fun _ h=>h
   have c3:a.op=4 ∨ a.op=8 → tBs ds fs a.brs (xtorsOf ds a.ty) (G false) (G true)=tBs ds fs a.brs (xtorsOf ds a.ty) (G' false) (G' true):=fun e=>c2 _ fun i b x hi hx=>by
    have:xs=xtorsOf ds a.ty:=by
     unfold headOf at hh
     rw [if_neg (by omega),if_neg (by omega),if_neg (by omega),if_neg (by omega),if_pos e] at hh
     unfold xtorsOf
     split at hh
     ·rename_i d hd
      rw [hd]
      split at hh <;> simp at hh
      exact hh.2.symm
     cases hh
    exact vBs_at h2 hi (by rw [this];exact hx)
   simp only [TN]
   rw [tN_eq,tN_eq]
   by_cases e0:a.op=0
   ·rw [if_pos e0,if_pos e0]
    exact hG false a.n (by rw [frN_eq,if_pos (.inl e0)];simp [e0])
   rw [if_neg e0,if_neg e0]
   by_cases e5:a.op=5
   ·rw [if_pos e5,if_pos e5]
    exact hG true a.n (by rw [frN_eq,if_pos (.inr e5)];simp [e5])
   rw [if_neg e5,if_neg e5]
   by_cases e1:a.op=1
   ·rw [if_pos e1,if_pos e1]
   rw [if_neg e1,if_neg e1]
   by_cases em:a.op=3 ∨ a.op=7
   ·have n26:¬ (a.op=2 ∨ a.op=6):=by omega
    have c:=c1 [0]
    simp only [muG_f,muG_t] at c
    rw [if_neg n26,if_neg n26,if_pos em,if_pos em,c]
   have q:muG a.op a.n a.ty G=G ∧ muG a.op a.n a.ty G'=G':=by
    have:∀ w v,muB a.op a.n w v=false:=fun w v=>by simp only [muB,decide_eq_false_iff_not];omega
    constructor <;> (funext w v;simp [muG,this])
   rw [q.1,q.2] at c1
   simp only [if_neg em,c1]
   by_cases e4:a.op=4 ∨ a.op=8
   ·rw [c3 e4]
   simp only [if_neg e4]
end Go.Sim.Kd
namespace Go.Sim.Kd
open Go Go.Sim
mutual
def cpN:Node → Node
 | .mk op n ty args brs=>if leafOp op=true then .mk op n ty [] [] else .mk op n ty (cpNs args) (cpBs brs)
def cpNs:List Node → List Node
 | []=>[]
 | a :: as=>cpN a :: cpNs as
def cpB:Br → Br
 | .mk vars co body=>.mk vars co (cpN body)
def cpBs:List Br → List Br
 | []=>[]
 | b :: bs=>cpB b :: cpBs bs
end
theorem cpN_eq (a:Node):cpN a=if leafOp a.op=true then .mk a.op a.n a.ty [] [] else .mk a.op a.n a.ty (cpNs a.args) (cpBs a.brs):=by
 cases a
 rw [cpN]
 rfl
theorem cpB_eq (b:Br):cpB b=.mk b.vars b.co (cpN b.body):=by
 cases b
 rw [cpB]
 rfl
theorem mk_op (op n ty:Int) (as:List Node) (bs:List Br):(Node.mk op n ty as bs).op=op:=rfl
theorem mk_n (op n ty:Int) (as:List Node) (bs:List Br):(Node.mk op n ty as bs).n=n:=rfl
theorem mk_ty (op n ty:Int) (as:List Node) (bs:List Br):(Node.mk op n ty as bs).ty=ty:=rfl
theorem mk_args (op n ty:Int) (as:List Node) (bs:List Br):(Node.mk op n ty as bs).args=as:=rfl
theorem mk_brs (op n ty:Int) (as:List Node) (bs:List Br):(Node.mk op n ty as bs).brs=bs:=rfl
theorem mb_vars (vs:List Int) (cs:List Bool) (b:Node):(Br.mk vs cs b).vars=vs:=rfl
theorem mb_co (vs:List Int) (cs:List Bool) (b:Node):(Br.mk vs cs b).co=cs:=rfl
theorem mb_body (vs:List Int) (cs:List Bool) (b:Node):(Br.mk vs cs b).body=b:=rfl
theorem cpNs_map (l:List Node):cpNs l=l.map cpN:=by
 induction l with
 | nil=>rfl
 | cons a l ih=>simp [cpNs,ih]
theorem cpBs_map (l:List Br):cpBs l=l.map cpB:=by
 induction l with
 | nil=>rfl
 | cons a l ih=>simp [cpBs,ih]
theorem Node.eta (a:Node):Node.mk a.op a.n a.ty a.args a.brs=a:=by cases a;rfl
theorem Br.eta (b:Br):Br.mk b.vars b.co b.body=b:=by cases b;rfl
theorem map_id' {α:Type} {f:α → α} {l:List α} (h:∀ a ∈ l,f a=a):l.map f=l:=by
 induction l with
 | nil=>rfl
 | cons a l ih=>rw [List.map_cons,h a (by simp),ih fun b hb=>h b (by simp [hb])]
theorem cp_id {ds:List Decl} {fs:List CFun} (a:Node):∀ {X:Bool → Int → Bool},VN ds fs a X → cpN a=a:=by
 induction a using Node.ind with
 | h a ih1 ih2 =>
   intro X h
   obtain ⟨want,xs,hh,hv,h1,h2⟩:=VN_iff.1 h
   rw [cpN_eq]
   split
   ·rename_i hl
    obtain ⟨e1,e2⟩:=leaf_nil h (by simpa [leafOp,or_assoc] using hl)
    conv=>rhs;rw [← Node.eta a,e1,e2]
   rw [cpNs_map,cpBs_map,map_id' fun b hb=>ih1 b hb (X:=muS a.op a.n X) (vNs_mem h1 b hb),map_id' fun b hb=>?_]
   ·exact Node.eta a
   obtain ⟨i,hi⟩:=List.getElem?_of_mem hb
   have hl:=vBs_len h2
   obtain ⟨x,hx⟩:=get_of_lt (l:=xs) (i:=i) (by rw [← hl];rcases Nat.lt_or_ge i a.brs.length with h' | h';exact h';rw [List.getElem?_eq_none h'] at hi;cases hi)
   have hb':=vBs_at h2 hi hx
   rw [vB_eq] at hb'
   simp only [Bae] at hb'
   rw [cpB_eq,ih2 b hb (X:=bndS b.vars b.co X) hb'.2]
   exact Br.eta b
abbrev NM:=Bool → Int → Option Node
def putG {α:Type} (M:Bool → Int → α) (w:Bool) (v:Int) (x:α) (w':Bool) (v':Int):α:=if w'=w ∧ v'=v then x else M w' v'
def putP (p:Bool → Int) (w:Bool) (x:Int) (w':Bool):Int:=if w'=w then x else p w'
def varN (w:Bool) (x:Int):Node:=.mk (if w then 5 else 0) x 0 [] []
structure FrS (T:Bool → Int → Bool) (p:Bool → Int) (w:Bool) (x:Int) (q:Bool → Int):Prop where
 le:p w ≤ x
 nt:T w x=false
 bt:∀ y,p w ≤ y → y < x → T w y=true
 q:q=putP p w (x + 1)
def Und (T:Bool → Int → Bool):NM → (Bool → Int) → List Int → List Bool → List Int → NM → (Bool → Int) → Prop
 | M,p,[],_,names,M',q=>names=[] ∧ M'=M ∧ q=p
 | M,p,v :: vs,cs,names,M',q=>∃ x p1 names',FrS T p (cs.headD false) x p1 ∧ names=x :: names' ∧ Und T (putG M (cs.headD false) v (some (varN (cs.headD false) x))) p1 vs cs.tail names' M' q
mutual
def SubN (T:Bool → Int → Bool):Node → NM → (Bool → Int) → Node → (Bool → Int) → Prop
 | .mk op n ty args brs,M,p,z,q =>
   if op=0 ∨ op=5 then (z=match M (decide (op=5)) n with
    | some x=>cpN x
    | none=>.mk op n ty [] []) ∧ q=p
   else if op=1 then z=.mk op n ty [] [] ∧ q=p
   else if op=3 ∨ op=7 then ∃ x p1 as r bs,FrS T p (decide (op=3)) x p1 ∧ SubNs T args (putG M (decide (op=3)) n (some (varN (decide (op=3)) x))) p1 as r ∧ SubBs T brs M r bs q ∧ z=.mk op x ty as bs
   else ∃ as r bs,SubNs T args M p as r ∧ SubBs T brs M r bs q ∧ z=.mk op n ty as bs
def SubNs (T:Bool → Int → Bool):List Node → NM → (Bool → Int) → List Node → (Bool → Int) → Prop
 | [],_,p,l,q=>l=[] ∧ q=p
 | a :: as,M,p,l,q=>∃ z r l',SubN T a M p z r ∧ SubNs T as M r l' q ∧ l=z :: l'
def SubB (T:Bool → Int → Bool):Br → NM → (Bool → Int) → Br → (Bool → Int) → Prop
 | .mk vars co body,M,p,z,q=>∃ names M' p1 b,Und T M p vars co names M' p1 ∧ SubN T body M' p1 b q ∧ z=.mk names ((List.range vars.length).map (coAt co)) b
def SubBs (T:Bool → Int → Bool):List Br → NM → (Bool → Int) → List Br → (Bool → Int) → Prop
 | [],_,p,l,q=>l=[] ∧ q=p
 | b :: bs,M,p,l,q=>∃ z r l',SubB T b M p z r ∧ SubBs T bs M r l' q ∧ l=z :: l'
end
theorem SubN_eq (T:Bool → Int → Bool) (a:Node) (M:NM) (p:Bool → Int) (z:Node) (q:Bool → Int):SubN T a M p z q ↔
 if a.op=0 ∨ a.op=5 then (z=match M (decide (a.op=5)) a.n with
  | some x=>cpN x
  | none=>.mk a.op a.n a.ty [] []) ∧ q=p
 else if a.op=1 then z=.mk a.op a.n a.ty [] [] ∧ q=p
 else if a.op=3 ∨ a.op=7 then ∃ x p1 as r bs,FrS T p (decide (a.op=3)) x p1 ∧ SubNs T a.args (putG M (decide (a.op=3)) a.n (some (varN (decide (a.op=3)) x))) p1 as r ∧ SubBs T a.brs M r bs q ∧ z=.mk a.op x a.ty as bs
 else ∃ as r bs,SubNs T a.args M p as r ∧ SubBs T a.brs M r bs q ∧ z=.mk a.op a.n a.ty as bs:=by
 cases a
 rw [SubN]
 rfl
theorem SubB_eq (T:Bool → Int → Bool) (b:Br) (M:NM) (p:Bool → Int) (z:Br) (q:Bool → Int):SubB T b M p z q ↔ ∃ names M' p1 d,Und T M p b.vars b.co names M' p1 ∧ SubN T b.body M' p1 d q ∧ z=.mk names ((List.range b.vars.length).map (coAt b.co)) d:=by
 cases b
 rw [SubB]
 rfl
theorem SubNs_nil {T:Bool → Int → Bool} {M:NM} {p q:Bool → Int} {l:List Node}:SubNs T [] M p l q ↔ l=[] ∧ q=p:=by rw [SubNs]
theorem SubNs_cons {T:Bool → Int → Bool} {M:NM} {p q:Bool → Int} {a:Node} {as l:List Node}:SubNs T (a :: as) M p l q ↔ ∃ z r l',SubN T a M p z r ∧ SubNs T as M r l' q ∧ l=z :: l':=by rw [SubNs]
theorem SubBs_nil {T:Bool → Int → Bool} {M:NM} {p q:Bool → Int} {l:List Br}:SubBs T [] M p l q ↔ l=[] ∧ q=p:=by rw [SubBs]
theorem SubBs_cons {T:Bool → Int → Bool} {M:NM} {p q:Bool → Int} {a:Br} {as l:List Br}:SubBs T (a :: as) M p l q ↔ ∃ z r l',SubB T a M p z r ∧ SubBs T as M r l' q ∧ l=z :: l':=by rw [SubBs]
theorem SubNs_snoc {T:Bool → Int → Bool} {M:NM} {a z:Node} {r q:Bool → Int}:∀ {l l':List Node} {p:Bool → Int},SubNs T l M p l' r → SubN T a M r z q → SubNs T (l ++ [a]) M p (l' ++ [z]) q
 | [],l',p,h,k=>by
   obtain ⟨rfl,rfl⟩:=SubNs_nil.1 h
   exact SubNs_cons.2 ⟨z,q,[],k,SubNs_nil.2 ⟨rfl,rfl⟩,rfl⟩
 | b :: l,l',p,h,k=>by
   obtain ⟨y,s,m,h1,h2,rfl⟩:=SubNs_cons.1 h
   exact SubNs_cons.2 ⟨y,s,m ++ [z],h1,SubNs_snoc h2 k,rfl⟩
theorem SubBs_snoc {T:Bool → Int → Bool} {M:NM} {a z:Br} {r q:Bool → Int}:∀ {l l':List Br} {p:Bool → Int},SubBs T l M p l' r → SubB T a M r z q → SubBs T (l ++ [a]) M p (l' ++ [z]) q
 | [],l',p,h,k=>by
   obtain ⟨rfl,rfl⟩:=SubBs_nil.1 h
   exact SubBs_cons.2 ⟨z,q,[],k,SubBs_nil.2 ⟨rfl,rfl⟩,rfl⟩
 | b :: l,l',p,h,k=>by
   obtain ⟨y,s,m,h1,h2,rfl⟩:=SubBs_cons.1 h
   exact SubBs_cons.2 ⟨y,s,m ++ [z],h1,SubBs_snoc h2 k,rfl⟩
def below (l:List Int) (x:Int):Nat:=(l.filter fun y=>decide (y < x)).length
theorem below_le (l:List Int) (x:Int):below l x ≤ l.length:=List.length_filter_le _ _
theorem below_mono (l:List Int) {x y:Int} (h:x ≤ y):below l x ≤ below l y:=by
 unfold below
 induction l with
 | nil=>exact Nat.le_refl _
 | cons a l ih =>
   simp only [List.filter_cons]
   by_cases h1:a < x
   ·rw [if_pos (by simpa using h1),if_pos (by simp;omega)]
    simpa using ih
   rw [if_neg (by simpa using h1)]
   split
   ·simp only [List.length_cons];omega
   exact ih
theorem below_step (l:List Int) {x:Int} (h:x ∈ l):below l x + 1 ≤ below l (x + 1):=by
 unfold below
 induction l with
 | nil=>cases h
 | cons a l ih =>
   simp only [List.filter_cons]
   have hm:=below_mono l (show x ≤ x + 1 by omega)
   unfold below at hm
   by_cases h1:a < x
   ·rw [if_pos (by simpa using h1),if_pos (by simp;omega)]
    have:=ih ((List.mem_cons.1 h).resolve_left (by omega))
    simp only [List.length_cons]
    omega
   rw [if_neg (by simpa using h1)]
   by_cases h2:a=x
   ·rw [if_pos (by simp;omega)]
    simp only [List.length_cons]
    omega
   rw [if_neg (by simp;omega)]
   exact ih ((List.mem_cons.1 h).resolve_left (Ne.symm h2))
theorem below_run (l:List Int) (x:Int):∀ k:Nat,(∀ y,x ≤ y → y < x + k → y ∈ l) → below l x + k ≤ below l (x + k)
 | 0,_=>by simp
 | k + 1,h=>by
   have h1:=below_run l x k fun y a b=>h y a (by omega)
   have h2:=below_step l (h (x + k) (by omega) (by omega))
   rw [show x + ((k + 1:Nat):Int)=x + k + 1 from by omega]
   omega
def Pot (L:Bool → List Int) (p:Bool → Int) (c:Nat):Prop:=∀ w,0 ≤ p w ∧ p w ≤ below (L w) (p w) + c
theorem Pot.step {T:Bool → Int → Bool} {L:Bool → List Int} (hL:∀ w x,T w x=true → x ∈ L w) {p q:Bool → Int} {c:Nat} {w:Bool} {x:Int} (h:Pot L p c) (f:FrS T p w x q):0 ≤ x ∧ x ≤ (L w).length + c ∧ Pot L q (c + 1) ∧ ∀ w,p w ≤ q w:=by
 obtain ⟨h0,h1⟩:=h w
 have fl:=f.le
 have hr:=below_run (L w) (p w) (x - p w).toNat fun y a b=>hL w y (f.bt y a (by omega))
 rw [show p w + ((x - p w).toNat:Int)=x from by omega] at hr
 have h2:=below_le (L w) x
 have h3:=below_mono (L w) (show x ≤ x + 1 by omega)
 refine ⟨by omega,by omega,fun w'=>?_,fun w'=>?_⟩
 ·obtain ⟨k0,k1⟩:=h w'
  rw [f.q]
  unfold putP
  by_cases e:w'=w
  ·subst e
   simp only [if_true]
   omega
  simp only [if_neg e]
  omega
 rw [f.q]
 unfold putP
 by_cases e:w'=w
 ·subst e
  simp only [if_true]
  omega
 simp only [if_neg e]
 omega
mutual
def nBd:Node → Nat
 | .mk op _ _ args brs=>(if op=3 ∨ op=7 then 1 else 0) + nBds args + bBds brs
def nBds:List Node → Nat
 | []=>0
 | a :: as=>nBd a + nBds as
def bBd:Br → Nat
 | .mk vars _ body=>vars.length + nBd body
def bBds:List Br → Nat
 | []=>0
 | b :: bs=>bBd b + bBds bs
end
theorem nBd_eq (a:Node):nBd a=(if a.op=3 ∨ a.op=7 then 1 else 0) + nBds a.args + bBds a.brs:=by
 cases a
 rw [nBd]
 rfl
theorem bBd_eq (b:Br):bBd b=b.vars.length + nBd b.body:=by
 cases b
 rw [bBd]
 rfl
section
variable (ds:List Decl) (fs:List CFun)
structure Cond (T:Bool → Int → Bool) (F:Bool → Int → Bool) (M:NM) (p:Bool → Int) (G H:Bool → Int → Option Int):Prop where
 hit:∀ w v x,F w v=true → M w v=some x → VN ds fs x (domG H) ∧ TN ds fs x H=G w v ∧ sortOf x.op=(if w then 1 else 0)
 no:∀ w v,F w v=true → M w v=none → H w v=G w v ∧ T w v=true
 fr:∀ w v x,F w v=true → M w v=some x → ∀ w' y,frN x w' y=true → T w' y=true ∨ y < p w'
end
variable {ds:List Decl} {fs:List CFun}
theorem Cond.sub {T:Bool → Int → Bool} {F F':Bool → Int → Bool} {M:NM} {p p':Bool → Int} {G H:Bool → Int → Option Int} (h:Cond ds fs T F M p G H) (hF:∀ w v,F' w v=true → F w v=true) (hp:∀ w,p w ≤ p' w):Cond ds fs T F' M p' G H :=
 ⟨fun w v x f m=>h.hit w v x (hF w v f) m,fun w v f m=>h.no w v (hF w v f) m,fun w v x f m w' y hy=>(h.fr w v x (hF w v f) m w' y hy).imp id fun hl=>Int.lt_of_lt_of_le hl (hp w')⟩
def bind1 (G:Bool → Int → Option Int) (w:Bool) (v t:Int):Bool → Int → Option Int:=putG G w v (some t)
theorem Cond.bind {T:Bool → Int → Bool} {F:Bool → Int → Bool} {M:NM} {p q:Bool → Int} {G H:Bool → Int → Option Int} {w:Bool} {v x t:Int} (h:Cond ds fs T (fun w' v'=>F w' v' && !decide (w'=w ∧ v'=v)) M p G H) (f:FrS T p w x q) (hn:numOk x=true) (hq:∀ w,p w ≤ q w) :
 Cond ds fs T F (putG M w v (some (varN w x))) q (bind1 G w v t) (bind1 H w x t):=by
 have cg:∀ y:Node,(∀ w' u,frN y w' u=true → T w' u=true ∨ u < p w') → VN ds fs y (domG H) → VN ds fs y (domG (bind1 H w x t)) ∧ TN ds fs y (bind1 H w x t)=TN ds fs y H:=fun y hy hv=>by
  have e:∀ w' u,frN y w' u=true → H w' u=bind1 H w x t w' u:=fun w' u hu=>by
   unfold bind1 putG
   rw [if_neg]
   rintro ⟨rfl,rfl⟩
   rcases hy _ _ hu with h1 | h1
   ·rw [f.nt] at h1;cases h1
   have:=f.le;omega
  exact ⟨VN_congr y (fun w' u hu=>by simp only [domG,dom,e w' u hu]) hv,(TN_congr y hv e).symm⟩
 refine ⟨fun w' u y hF hm=>?_,fun w' u hF hm=>?_,fun w' u y hF hm w2 z hz=>?_⟩
 ·by_cases e:w'=w ∧ u=v
  ·obtain ⟨rfl,rfl⟩:=e
   simp only [putG,and_self,if_true,Oie] at hm
   subst hm
   refine ⟨VN_iff.2 ⟨[],[],?_,fun _=>?_,J,J⟩,?_,?_⟩
   ·unfold headOf
    rw [if_pos (by cases w' <;> simp [varN,Node.op]),if_pos ⟨rfl,hn⟩]
   ·cases w' <;> simp [domG,dom,bind1,putG,varN,Node.op,Node.n]
   ·simp only [TN]
    rw [tN_eq]
    cases w' <;> simp [varN,Node.op,Node.n,bind1,putG]
   cases w' <;> rfl
  simp only [putG,if_neg e] at hm
  have hF':(F w' u && !decide (w'=w ∧ u=v))=true:=by rw [hF];simp [e]
  obtain ⟨h1,h2,h3⟩:=h.hit w' u y hF' hm
  obtain ⟨c1,c2⟩:=cg y (h.fr w' u y hF' hm) h1
  exact ⟨c1,by rw [c2,h2];simp only [bind1,putG,if_neg e],h3⟩
 ·by_cases e:w'=w ∧ u=v
  ·simp only [putG,if_pos e] at hm
   cases hm
  simp only [putG,if_neg e] at hm
  have hF':(F w' u && !decide (w'=w ∧ u=v))=true:=by rw [hF];simp [e]
  obtain ⟨h1,h2⟩:=h.no w' u hF' hm
  refine ⟨?_,h2⟩
  simp only [bind1,putG,if_neg e]
  rw [if_neg]
  ·exact h1
  rintro ⟨rfl,rfl⟩
  rw [f.nt] at h2
  cases h2
 by_cases e:w'=w ∧ u=v
 ·simp only [putG,if_pos e,Oie] at hm
  subst hm
  rw [frN_eq,if_pos (by cases w <;> simp [varN,Node.op])] at hz
  have hz':w2=w ∧ z=x:=by cases w <;> simpa [varN,Node.op,Node.n] using hz
  obtain ⟨rfl,rfl⟩:=hz'
  refine .inr ?_
  rw [f.q]
  simp [putP]
  omega
 simp only [putG,if_neg e] at hm
 have hF':(F w' u && !decide (w'=w ∧ u=v))=true:=by rw [hF];simp [e]
 exact (h.fr w' u y hF' hm w2 z hz).imp id fun hl=>Int.lt_of_lt_of_le hl (hq w2)
theorem bind1_eq (G:Bool → Int → Option Int) (w:Bool) (v t:Int) (w':Bool):bind1 G w v t w'=if w=w' then bindT (G w') v t else G w':=by
 funext u
 unfold bind1 putG
 by_cases e:w=w'
 ·subst e
  simp [setT]
 rw [if_neg e,if_neg (fun h=>e h.1.symm)]
theorem bndG_cons (v:Int) (vs:List Int) (a:Arg) (as:List Arg) (G:Bool → Int → Option Int):bndG (v :: vs) (a :: as) G=bndG vs as (bind1 G a.co v a.ty):=by
 funext w
 simp only [bndG,bindsT,bind1_eq]
theorem numOk_of {x:Int} (h0:0 ≤ x) (h1:x ≤ 2 ^ 20):numOk x=true:=by
 unfold numOk
 simp only [Bae,Dte]
 omega
theorem und_ok {T:Bool → Int → Bool} {L:Bool → List Int} (hL:∀ w x,T w x=true → x ∈ L w):∀ (vs:List Int) (as:List Arg) (M:NM) (p:Bool → Int) (names:List Int) (M':NM) (q:Bool → Int) (c:Nat) (F:Bool → Int → Bool) (G H:Bool → Int → Option Int),
 vs.length=as.length → Und T M p vs (as.map fun a=>a.co) names M' q → Cond ds fs T (fun w v=>F w v && !bnd w vs (as.map fun a=>a.co) v) M p G H → Pot L p c → (∀ w,(L w).length + c + vs.length ≤ 2 ^ 20) →
 names.length=vs.length ∧ Cond ds fs T F M' q (bndG vs as G) (bndG names as H) ∧ Pot L q (c + vs.length) ∧ (∀ w,p w ≤ q w) ∧ ∀ seen:List (Int × Bool),(∀ r ∈ seen,r.1 < p r.2) → distinctOk seen (names.zip (as.map fun a=>a.co))=true
 | [],as,M,p,names,M',q,c,F,G,H,hl,hu,hc,hp,hb=>by
   rw [Und] at hu
   obtain ⟨rfl,rfl,rfl⟩:=hu
   refine ⟨rfl,?_,hp,fun _=>Int.le_refl _,fun seen _=>by simp [distinctOk]⟩
   have e:∀ G:Bool → Int → Option Int,bndG [] as G=G:=fun G=>by funext w;cases as <;> simp [bndG,bindsT]
   rw [e,e]
   exact hc.sub (fun w v h=>by rw [h];rfl) fun _=>Int.le_refl _
 | _ :: _,[],_,_,_,_,_,_,_,_,_,hl,_,_,_,_=>by simp at hl
 | v :: vs,a :: as,M,p,names,M',q,c,F,G,H,hl,hu,hc,hp,hb=>by
   rw [Und] at hu
   obtain ⟨x,p1,names',hf,rfl,hu⟩:=hu
   have hf:FrS T p a.co x p1:=hf
   obtain ⟨x0,x1,hp1,hq1⟩:=hp.step hL hf
   have hb':=hb a.co
   simp only [List.length_cons] at hb'
   have hn:numOk x=true:=numOk_of x0 (by omega)
   have hc1:=Cond.bind (F:=fun w u=>F w u && !bnd w vs (as.map fun a=>a.co) u) (t:=a.ty) (G:=G) (H:=H) (v:=v) (hc.sub (fun w u h=>by
    simp only [List.map_cons,bnd,List.headD_cons,List.tail_cons]
    simp only [Bae,Bool.not_eq_true',decide_eq_false_iff_not,Bool.or_eq_false_iff,Bool.and_eq_false_iff] at h ⊢
    refine ⟨h.1.1,?_,h.1.2⟩
    by_cases e:u=v
    ·exact .inr fun e2=>h.2 ⟨e2.symm,e⟩
    exact .inl e) fun _=>Int.le_refl _) hf hn hq1
   obtain ⟨k1,k2,k3,k4,k5⟩:=und_ok hL vs as _ p1 names' M' q (c + 1) F _ _ (by simpa using hl) hu hc1 hp1 (fun w=>by have:=hb w;simp only [List.length_cons] at this;omega)
   refine ⟨by simp [k1],?_,?_,fun w=>Int.le_trans (hq1 w) (k4 w),fun seen hs=>?_⟩
   ·rw [bndG_cons,bndG_cons]
    exact k2
   ·rw [List.length_cons,show c + (vs.length + 1)=c + 1 + vs.length from by omega]
    exact k3
   simp only [List.map_cons,List.zip_cons_cons,distinctOk,Bae]
   refine ⟨⟨hn,?_⟩,k5 _ fun r hr=>?_⟩
   ·rw [Bool.not_eq_true']
    rw [List.any_eq_false]
    intro r hr e
    have e:r=(x,a.co):=by simpa using e
    have h1:=hs r hr
    rw [e] at h1
    have:=hf.le
    dsimp only at h1
    omega
   rcases List.mem_append.1 hr with hr | hr
   ·exact Int.lt_of_lt_of_le (hs r hr) (hq1 r.2)
   obtain rfl:=List.mem_singleton.1 hr
   rw [hf.q]
   simp only [putP,if_true]
   omega
theorem range_coAt (l:List Bool):(List.range l.length).map (coAt l)=l:=by
 refine List.ext_getElem? fun i=>?_
 rw [Lgm]
 rcases Nat.lt_or_ge i l.length with h | h
 ·rw [List.getElem?_range h]
  simp [coAt,h]
 rw [List.getElem?_eq_none (by simpa using h),List.getElem?_eq_none h]
 rfl
def SubOk (ds:List Decl) (fs:List CFun) (T:Bool → Int → Bool) (L:Bool → List Int) (a:Node):Prop:=∀ (M:NM) (p:Bool → Int) (c:Nat) (z:Node) (q:Bool → Int) (G H:Bool → Int → Option Int),SubN T a M p z q → VN ds fs a (domG G) → Cond ds fs T (frN a) M p G H → Pot L p c → (∀ w,(L w).length + c + nBd a ≤ 2 ^ 20) →
 VN ds fs z (domG H) ∧ TN ds fs z H=TN ds fs a G ∧ sortOf z.op=sortOf a.op ∧ (∀ w,p w ≤ q w) ∧ Pot L q (c + nBd a)
theorem args_ok {T:Bool → Int → Bool} {L:Bool → List Int}:∀ (l:List Node),(∀ b ∈ l,SubOk ds fs T L b) → ∀ (M:NM) (p:Bool → Int) (c:Nat) (l':List Node) (q:Bool → Int) (G H:Bool → Int → Option Int),SubNs T l M p l' q → (∀ b ∈ l,VN ds fs b (domG G)) → (∀ b ∈ l,Cond ds fs T (frN b) M p G H) → Pot L p c →
 (∀ w,(L w).length + c + nBds l ≤ 2 ^ 20) → (∀ ws,vNs ds fs l ws (domG G false) (domG G true)=true → vNs ds fs l' ws (domG H false) (domG H true)=true) ∧ (∀ ws,tNs ds fs l' ws (H false) (H true)=tNs ds fs l ws (G false) (G true)) ∧ (∀ w,p w ≤ q w) ∧ Pot L q (c + nBds l)
 | [],_,M,p,c,l',q,G,H,h,_,_,hp,_=>by
   obtain ⟨rfl,rfl⟩:=SubNs_nil.1 h
   exact ⟨fun ws h=>by cases ws <;> simp [vNs] at h ⊢,fun ws=>by cases ws <;> rfl,fun _=>Int.le_refl _,hp⟩
 | a :: l,ih,M,p,c,l',q,G,H,h,hv,hc,hp,hb=>by
   obtain ⟨z,r,m,h1,h2,rfl⟩:=SubNs_cons.1 h
   have hb1:∀ w,(L w).length + c + nBd a ≤ 2 ^ 20 ∧ (L w).length + (c + nBd a) + nBds l ≤ 2 ^ 20:=fun w=>by
    have:=hb w
    simp only [nBds] at this
    omega
   obtain ⟨a1,a2,a3,a4,a5⟩:=ih a (by simp) M p c z r G H h1 (hv a (by simp)) (hc a (by simp)) hp fun w=>(hb1 w).1
   obtain ⟨b1,b2,b3,b4⟩:=args_ok l (fun b hb=>ih b (by simp [hb])) M r (c + nBd a) m q G H h2 (fun b hb=>hv b (by simp [hb])) (fun b hb=>(hc b (by simp [hb])).sub (fun _ _ h=>h) a4) a5 fun w=>(hb1 w).2
   refine ⟨fun ws hw=>?_,fun ws=>?_,fun w=>Int.le_trans (a4 w) (b3 w),?_⟩
   ·cases ws with
    | nil=>simp [vNs] at hw
    | cons wt ws =>
      simp only [vNs,Bae] at hw ⊢
      exact ⟨⟨by rw [a3];exact hw.1.1,a1⟩,b1 ws hw.2⟩
   ·cases ws with
    | nil=>rfl
    | cons wt ws =>
      simp only [tNs,b2]
      rw [show tN ds fs z (H false) (H true)=tN ds fs a (G false) (G true) from a2]
   rw [nBds,← Nat.add_assoc]
   exact b4
theorem brs_ok {T:Bool → Int → Bool} {L:Bool → List Int} (hL:∀ w x,T w x=true → x ∈ L w):∀ (l:List Br),(∀ b ∈ l,SubOk ds fs T L b.body) → ∀ (ys:List Xtor) (M:NM) (p:Bool → Int) (c:Nat) (l':List Br) (q:Bool → Int) (G H:Bool → Int → Option Int),SubBs T l M p l' q → vBs ds fs l ys (domG G false) (domG G true)=true → (∀ b ∈ l,Cond ds fs T (frB b) M p G H) → Pot L p c →
 (∀ w,(L w).length + c + bBds l ≤ 2 ^ 20) → vBs ds fs l' ys (domG H false) (domG H true)=true ∧ tBs ds fs l' ys (H false) (H true)=tBs ds fs l ys (G false) (G true) ∧ (∀ w,p w ≤ q w) ∧ Pot L q (c + bBds l)
 | [],_,ys,M,p,c,l',q,G,H,h,hv,_,hp,_=>by
   obtain ⟨rfl,rfl⟩:=SubBs_nil.1 h
   refine ⟨?_,by cases ys <;> rfl,fun _=>Int.le_refl _,hp⟩
   cases ys <;> simp [vBs] at hv ⊢
 | b :: l,ih,[],M,p,c,l',q,G,H,h,hv,_,hp,_=>by simp [vBs] at hv
 | b :: l,ih,y :: ys,M,p,c,l',q,G,H,h,hv,hc,hp,hb=>by
   obtain ⟨z,r,m,h1,h2,rfl⟩:=SubBs_cons.1 h
   simp only [vBs,Bae] at hv
   obtain ⟨hv1,hv2⟩:=hv
   rw [vB_eq] at hv1
   simp only [Bae,Dte] at hv1
   obtain ⟨⟨⟨⟨v1,v2⟩,v3⟩,v4⟩,v5⟩:=hv1
   obtain ⟨names,M1,p1,d,hu,hs,rfl⟩:=(SubB_eq ..).1 h1
   have hb1:∀ w,(L w).length + c + b.vars.length ≤ 2 ^ 20 ∧ (L w).length + (c + b.vars.length) + nBd b.body ≤ 2 ^ 20 ∧ (L w).length + (c + b.vars.length + nBd b.body) + bBds l ≤ 2 ^ 20:=fun w=>by
    have:=hb w
    simp only [bBds,bBd_eq] at this
    omega
   rw [v2] at hu
   obtain ⟨u1,u2,u3,u4,u5⟩:=und_ok hL b.vars y.args M p names M1 p1 c (frN b.body) G H v1 hu ((hc b (by simp)).sub (fun w v h=>by rw [frB_eq,v2];exact h) fun _=>Int.le_refl _) hp fun w=>(hb1 w).1
   have vb:VN ds fs b.body (domG (bndG b.vars y.args G)):=by
    rw [dom_bnd G v1,← v2]
    exact v5
   obtain ⟨a1,a2,a3,a4,a5⟩:=ih b (by simp) M1 p1 (c + b.vars.length) d r _ _ hs vb u2 u3 fun w=>(hb1 w).2.1
   obtain ⟨b1,b2,b3,b4⟩:=brs_ok hL l (fun b hb=>ih b (by simp [hb])) ys M r (c + b.vars.length + nBd b.body) m q G H h2 hv2 (fun b hb=>(hc b (by simp [hb])).sub (fun _ _ h=>h) fun w=>Int.le_trans (u4 w) (a4 w)) a5 fun w=>(hb1 w).2.2
   have hco:(List.range b.vars.length).map (coAt b.co)=b.co:=by
    rw [show b.vars.length=b.co.length from by rw [v2,List.length_map,v1]]
    exact range_coAt _
   refine ⟨?_,?_,fun w=>Int.le_trans (Int.le_trans (u4 w) (a4 w)) (b3 w),?_⟩
   ·simp only [vBs,Bae]
    refine ⟨?_,b1⟩
    rw [vB]
    simp only [Bae,Dte]
    rw [hco]
    refine ⟨⟨⟨⟨u1.trans v1,v2⟩,?_⟩,a3.trans v4⟩,?_⟩
    ·rw [v2]
     exact u5 [] fun r hr=>by cases hr
    rw [dom_bnd H (u1.trans v1),← v2] at a1
    exact a1
   ·simp only [tBs,b2]
    rw [tB,tB_eq,show tN ds fs d (bindsT false (H false) names y.args) (bindsT true (H true) names y.args)=tN ds fs b.body (bindsT false (G false) b.vars y.args) (bindsT true (G true) b.vars y.args) from a2]
   rw [bBds,bBd_eq,← Nat.add_assoc,← Nat.add_assoc]
   exact b4
theorem head_xtors {op n ty:Int} {want:List Int} {xs:List Xtor} (hh:headOf ds fs op n ty=some (want,xs)) (e:op=4 ∨ op=8):xs=xtorsOf ds ty:=by
 unfold headOf at hh
 rw [if_neg (by omega),if_neg (by omega),if_neg (by omega),if_neg (by omega),if_pos e] at hh
 unfold xtorsOf
 split at hh
 ·rename_i d hd
  rw [hd]
  split at hh <;> simp at hh
  exact hh.2.symm
 cases hh
theorem hd_mu {op n ty:Int} {want:List Int} {xs:List Xtor} (hh:headOf ds fs op n ty=some (want,xs)) (e:op=3 ∨ op=7) {x:Int} (hx:numOk x=true):headOf ds fs op x ty=some (want,xs):=by
 unfold headOf at hh ⊢
 rw [if_neg (by omega),if_neg (by omega),if_neg (by omega),if_pos e] at hh ⊢
 split at hh
 ·rename_i h
  rw [if_pos ⟨h.1,hx⟩]
  exact hh
 cases hh
theorem mu_bind1 {op n ty:Int} (e:op=3 ∨ op=7) (G:Bool → Int → Option Int):muG op n ty G=bind1 G (decide (op=3)) n ty:=by
 funext w v
 unfold muG bind1 putG muB
 rcases e with rfl | rfl <;> cases w <;> simp
theorem mu_no {op n:Int} (e:¬ (op=3 ∨ op=7)) (w:Bool) (v:Int):muB op n w v=false:=by
 simp only [muB,decide_eq_false_iff_not]
 omega
theorem sub_ok {T:Bool → Int → Bool} {L:Bool → List Int} (hL:∀ w x,T w x=true → x ∈ L w) (a:Node):SubOk ds fs T L a:=by
 induction a using Node.ind with
 | h a ih1 ih2 =>
   intro M p c z q G H hs hv hc hp hb
   obtain ⟨want,xs,hh,hvar,h1,h2⟩:=VN_iff.1 hv
   rw [SubN_eq] at hs
   rw [nBd_eq] at hb ⊢
   by_cases e0:a.op=0 ∨ a.op=5
   ·rw [if_pos e0] at hs
    obtain ⟨hz,rfl⟩:=hs
    obtain ⟨n1,n2⟩:=leaf_nil hv (by omega)
    have hf:frN a (decide (a.op=5)) a.n=true:=by rw [frN_eq,if_pos e0];simp
    have hT:∀ G:Bool → Int → Option Int,TN ds fs a G=G (decide (a.op=5)) a.n:=fun G=>by
     simp only [TN]
     rw [tN_eq]
     rcases e0 with e | e <;> simp [e]
    have hn0:(if a.op=3 ∨ a.op=7 then 1 else 0) + nBds a.args + bBds a.brs=0:=by rw [n1,n2,if_neg (by omega)];rfl
    rw [hn0]
    cases hm:M (decide (a.op=5)) a.n with
    | some x =>
      rw [hm] at hz
      obtain ⟨k1,k2,k3⟩:=hc.hit _ _ x hf hm
      have hz:z=x:=by rw [hz];exact cp_id x k1
      subst hz
      refine ⟨k1,by rw [k2,hT],?_,fun _=>Int.le_refl _,hp⟩
      rw [k3]
      rcases e0 with e | e <;> simp [e,sortOf]
    | none =>
      rw [hm] at hz
      obtain ⟨k1,k2⟩:=hc.no _ _ hf hm
      have hz:z=a:=by rw [hz];conv=>rhs;rw [← Node.eta a,n1,n2]
      subst hz
      refine ⟨VN_congr _ (fun w v hw=>?_) hv,by rw [hT,hT,k1],rfl,fun _=>Int.le_refl _,hp⟩
      rw [frN_eq,if_pos e0] at hw
      obtain ⟨rfl,rfl⟩:w=decide (z.op=5) ∧ v=z.n:=by simpa using hw
      simp only [domG,dom,k1]
   rw [if_neg e0] at hs
   by_cases e1:a.op=1
   ·rw [if_pos e1] at hs
    obtain ⟨hz,rfl⟩:=hs
    obtain ⟨n1,n2⟩:=leaf_nil hv (by omega)
    have hn0:(if a.op=3 ∨ a.op=7 then 1 else 0) + nBds a.args + bBds a.brs=0:=by rw [n1,n2,if_neg (by omega)];rfl
    rw [hn0]
    have hz:z=a:=by rw [hz];conv=>rhs;rw [← Node.eta a,n1,n2]
    subst hz
    have nf:∀ w v,frN z w v=true → False:=fun w v hw=>by
     rw [frN_eq,if_neg e0,if_pos e1] at hw
     cases hw
    exact ⟨VN_congr _ (fun w v hw=>(nf w v hw).elim) hv,TN_congr _ hv (fun w v hw=>(nf w v hw).elim) |>.symm ▸ rfl,rfl,fun _=>Int.le_refl _,hp⟩
   rw [if_neg e1] at hs
   have cb:∀ b ∈ a.brs,Cond ds fs T (frB b) M p G H:=fun b hb=>hc.sub (fun w v hw=>by
    rw [frB_eq,Bae,Bool.not_eq_true'] at hw
    exact fr_br hv hb hw.1 hw.2) fun _=>Int.le_refl _
   by_cases em:a.op=3 ∨ a.op=7
   ·rw [if_pos em] at hs
    obtain ⟨x,p1,as,r,bs,hf,hsa,hsb,rfl⟩:=hs
    rw [if_pos em] at hb ⊢
    obtain ⟨x0,x1,hp1,hq1⟩:=hp.step hL hf
    have hn:numOk x=true:=numOk_of x0 (by have:=hb (decide (a.op=3));omega)
    have va:∀ b ∈ a.args,VN ds fs b (domG (bind1 G (decide (a.op=3)) a.n a.ty)):=fun b hb=>by
     rw [← mu_bind1 em,dom_mu]
     exact vNs_mem h1 b hb
    have ca:∀ b ∈ a.args,Cond ds fs T (frN b) (putG M (decide (a.op=3)) a.n (some (varN (decide (a.op=3)) x))) p1 (bind1 G (decide (a.op=3)) a.n a.ty) (bind1 H (decide (a.op=3)) x a.ty):=fun b hb =>
     Cond.bind (hc.sub (fun w v hw=>by
      simp only [Bae,Bool.not_eq_true',decide_eq_false_iff_not] at hw
      refine fr_arg hv hb hw.1 ?_
      simp only [muB,decide_eq_false_iff_not]
      rintro ⟨h,rfl⟩
      refine hw.2 ⟨?_,J⟩
      rcases h with ⟨h,rfl⟩ | ⟨h,rfl⟩ <;> simp [h]) fun _=>Int.le_refl _) hf hn hq1
    obtain ⟨a1,a2,a3,a4⟩:=args_ok a.args ih1 _ p1 (c + 1) as r _ _ hsa va ca hp1 fun w=>by have:=hb w;omega
    obtain ⟨b1,b2,b3,b4⟩:=brs_ok hL a.brs ih2 xs M r (c + 1 + nBds a.args) bs q G H hsb h2 (fun b hb=>(cb b hb).sub (fun _ _ h=>h) fun w=>Int.le_trans (hq1 w) (a3 w)) a4 fun w=>by have:=hb w;omega
    refine ⟨VN_iff.2 ⟨want,xs,hd_mu hh em hn,fun e=>absurd e e0,?_,b1⟩,?_,J,fun w=>Int.le_trans (Int.le_trans (hq1 w) (a3 w)) (b3 w),?_⟩
    ·rw [← dom_mu (ty:=a.ty)]
     simp only [mk_op,mk_n,mk_args]
     rw [mu_bind1 em]
     refine a1 want ?_
     rw [← mu_bind1 em,dom_mu]
     exact h1
    ·have k:=a2 [0]
     rw [← mu_bind1 em,← mu_bind1 em,muG_f,muG_f,muG_t,muG_t] at k
     have n26:¬ (a.op=2 ∨ a.op=6):=by omega
     simp only [TN]
     rw [tN,tN_eq]
     have n0:¬ a.op=0:=by omega
     have n5:¬ a.op=5:=by omega
     simp only [if_neg n0,if_neg n5,if_neg e1,if_neg n26,if_pos em,k]
    rw [show c + (1 + nBds a.args + bBds a.brs)=c + 1 + nBds a.args + bBds a.brs from by omega]
    exact b4
   rw [if_neg em] at hs
   obtain ⟨as,r,bs,hsa,hsb,rfl⟩:=hs
   rw [if_neg em] at hb ⊢
   have eS:∀ X:Bool → Int → Bool,muS a.op a.n X=X:=fun X=>by funext w v;simp [muS,mu_no em]
   rw [eS] at h1
   have ca:∀ b ∈ a.args,Cond ds fs T (frN b) M p G H:=fun b hb=>hc.sub (fun w v hw=>fr_arg hv hb hw (mu_no em w v)) fun _=>Int.le_refl _
   obtain ⟨a1,a2,a3,a4⟩:=args_ok a.args ih1 M p c as r G H hsa (fun b hb=>vNs_mem h1 b hb) ca hp fun w=>by have:=hb w;omega
   obtain ⟨b1,b2,b3,b4⟩:=brs_ok hL a.brs ih2 xs M r (c + nBds a.args) bs q G H hsb h2 (fun b hb=>(cb b hb).sub (fun _ _ h=>h) a3) a4 fun w=>by have:=hb w;omega
   refine ⟨VN_iff.2 ⟨want,xs,hh,fun e=>absurd e e0,?_,b1⟩,?_,J,fun w=>Int.le_trans (a3 w) (b3 w),?_⟩
   ·simp only [mk_op,mk_n,mk_args]
    rw [eS]
    exact a1 want h1
   ·simp only [TN]
    rw [tN,tN_eq]
    simp only [if_neg em,a2]
    by_cases e4:a.op=4 ∨ a.op=8
    ·rw [head_xtors hh e4] at b2
     simp only [b2]
     simp only [show ¬ a.op=0 by omega,show ¬ a.op=5 by omega,if_false]
    simp only [show ¬ a.op=0 by omega,show ¬ a.op=5 by omega,if_neg e4,if_false]
   rw [show c + (0 + nBds a.args + bBds a.brs)=c + nBds a.args + bBds a.brs from by omega]
   exact b4
end Go.Sim.Kd
