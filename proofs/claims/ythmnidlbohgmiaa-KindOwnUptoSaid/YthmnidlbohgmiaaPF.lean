/-
  A part of a proof: see the last text of this claim.
-/
import Derived.Test.YthmnidlbohgmiaaPE
set_option linter.unusedVariables false
set_option linter.unusedSimpArgs false
namespace Go.Sim.Kd
open Go Go.Sim
def addV (X:Int → Bool) (v:Int):Int → Bool:=fun n=>decide (n=v) || X n
def addsV (w:Bool) (X:Int → Bool):List Int → List Bool → (Int → Bool)
 | [],_=>X
 | v :: vs,cs=>addsV w (if cs.headD false=w then addV X v else X) vs cs.tail
mutual
def vN (ds:List Decl) (fs:List CFun):Node → (Int → Bool) → (Int → Bool) → Bool
 | .mk op n ty args brs,X,A=>match headOf ds fs op n ty with
   | none=>false
   | some (want,xs)=>(if op=0 then X n else if op=5 then A n else true) && vNs ds fs args want (if op=7 then addV X n else X) (if op=3 then addV A n else A) && vBs ds fs brs xs X A
def vNs (ds:List Decl) (fs:List CFun):List Node → List Int → (Int → Bool) → (Int → Bool) → Bool
 | [],[],_,_=>true
 | a :: as,w :: ws,X,A=>decide (sortOf a.op=w) && vN ds fs a X A && vNs ds fs as ws X A
 | _,_,_,_=>false
def vB (ds:List Decl) (fs:List CFun):Br → Xtor → (Int → Bool) → (Int → Bool) → Bool
 | .mk vars co body,x,X,A=>decide (vars.length=x.args.length) && decide (co=x.args.map fun a=>a.co) && distinctOk [] (vars.zip co) && decide (sortOf body.op=2) &&
   vN ds fs body (addsV false X vars co) (addsV true A vars co)
def vBs (ds:List Decl) (fs:List CFun):List Br → List Xtor → (Int → Bool) → (Int → Bool) → Bool
 | [],[],_,_=>true
 | b :: bs,x :: xs,X,A=>vB ds fs b x X A && vBs ds fs bs xs X A
 | _,_,_,_=>false
end
theorem vN_eq (ds:List Decl) (fs:List CFun) (a:Node) (X A:Int → Bool):vN ds fs a X A=match headOf ds fs a.op a.n a.ty with
 | none=>false
 | some (want,xs)=>(if a.op=0 then X a.n else if a.op=5 then A a.n else true) && vNs ds fs a.args want (if a.op=7 then addV X a.n else X) (if a.op=3 then addV A a.n else A) && vBs ds fs a.brs xs X A:=by
 cases a
 rw [vN]
 rfl
theorem vB_eq (ds:List Decl) (fs:List CFun) (b:Br) (x:Xtor) (X A:Int → Bool):vB ds fs b x X A=(decide (b.vars.length=x.args.length) && decide (b.co=x.args.map fun a=>a.co) && distinctOk [] (b.vars.zip b.co) && decide (sortOf b.body.op=2) &&
 vN ds fs b.body (addsV false X b.vars b.co) (addsV true A b.vars b.co)):=by
 cases b
 rw [vB]
 rfl
def Bn (X:Int → Int) (k:Int):Prop:=∀ n,0 ≤ X n ∧ X n ≤ k
theorem Bn.bd {X:Int → Int} {k b:Int} (h:Bn X k) (hb:k ≤ b):Bd X b:=fun n=>by have:=h n;omega
theorem Bn.le {X:Int → Int} {k b:Int} (h:Bn X k) (hb:k ≤ b):Bn X b:=fun n=>by have:=h n;omega
theorem Bn.add {X:Int → Int} {b v:Int} (h:Bn X b):Bn (addK X v 1) (b + 1):=by
 intro n
 have:=h n
 unfold addK
 split <;> omega
def pos (X:Int → Int):Int → Bool:=fun n=>decide (0 < X n)
theorem pos_add {X:Int → Int} {k v:Int} (h:Bn X k):pos (addK X v 1)=addV (pos X) v:=by
 funext n
 have:=h n
 unfold pos addV addK
 by_cases hn:n=v
 ·subst hn;simp;omega
 ·simp [hn]
abbrev IXA (ix ia:Nat):Nat → Prop:=fun j=>j=ix ∨ j=ia
end Go.Sim.Kd
namespace Go.Sim.Kd
open Go Go.Sim
structure CoreSz (c:Core):Prop where
 dl:c.decls.length ≤ 2 ^ 40
 xa:∀ d ∈ c.decls,∀ x ∈ d.xtors,x.args.length ≤ 2 ^ 40
 ga:∀ g ∈ c.funs,g.params.length ≤ 2 ^ 40
theorem ArgsR.some {h:Option (List Int × List Xtor)} {w:List Int} {k:Int} {ok:Bool} (a:ArgsR h w k ok) (e:ok=true):∃ want xs,h=some (want,xs) ∧ w=want.map (· + 1) ∧ k=xs.length:=by
 unfold ArgsR at a
 split at a
 ·rename_i want xs;exact ⟨want,xs,rfl,a.2.1,a.2.2⟩
 ·rw [a] at e;cases e
theorem ArgsR.none {h:Option (List Int × List Xtor)} {w:List Int} {k:Int} {ok:Bool} (a:ArgsR h w k ok) (e:ok=false):h=none:=by
 unfold ArgsR at a
 split at a
 ·rw [a.1] at e;cases e
 ·rfl
theorem vNs_len {ds:List Decl} {fs:List CFun}:∀ {as:List Node} {ws:List Int} {X A:Int → Bool},vNs ds fs as ws X A=true → as.length=ws.length
 | [],[],_,_,_=>rfl
 | [],_ :: _,_,_,h=>by simp [vNs] at h
 | _ :: _,[],_,_,h=>by simp [vNs] at h
 | a :: as,w :: ws,X,A,h=>by
   simp only [vNs,Bool.and_eq_true] at h
   simp [vNs_len h.2]
theorem vBs_len {ds:List Decl} {fs:List CFun}:∀ {as:List Br} {ws:List Xtor} {X A:Int → Bool},vBs ds fs as ws X A=true → as.length=ws.length
 | [],[],_,_,_=>rfl
 | [],_ :: _,_,_,h=>by simp [vBs] at h
 | _ :: _,[],_,_,h=>by simp [vBs] at h
 | a :: as,w :: ws,X,A,h=>by
   simp only [vBs,Bool.and_eq_true] at h
   simp [vBs_len h.2]
end Go.Sim.Kd
namespace Go.Sim.Kd
open Go Go.Sim
def addAll (X:Int → Int):List Int → (Int → Int)
 | []=>X
 | v :: vs=>addAll (addK X v 1) vs
theorem addAll_pos:∀ (l:List Int) {X:Int → Int} {k:Int},Bn X k → ∀ n,pos (addAll X l) n=(pos X n || l.any fun v=>decide (n=v))
 | [],X,k,h,n=>by simp [addAll]
 | v :: vs,X,k,h,n=>by
   rw [addAll,addAll_pos vs h.add n,pos_add h]
   simp only [addV,List.any_cons]
   cases decide (n=v) <;> simp
end Go.Sim.Kd
namespace Go.Sim.Kd
open Go Go.Sim
structure Two (o2 o3:Own) (v:Nat → Bool) (n:Nat):Prop where
 c2:Can o2 v
 c3:Can o3 v
 l2:∀ t,o2=.tip t → t < n
 l3:∀ t,o3=.tip t → t < n
 ne:∀ t,o2=.tip t → o3 ≠ .tip t
def parOf (co:Bool) (l:List (Arg × Int)):List Int:=(l.filter fun q=>q.1.co == co).map (·.2)
def parOk (N i:Nat) (a:Arg):Bool:=decide (0 ≤ a.ty) && decide (a.ty ≤ N) && !(decide (i=0) && (a.co || decide (a.ty ≠ 0)))
def funOk (N i:Nat) (names:List ByteArray) (g:CFun):Bool:=nameOk g.name && decide (g.params.length ≤ 6) && decide (g.vars.length=g.params.length) && distinctOk [] (g.vars.zip (g.params.map fun (q:Arg)=>q.co)) &&
 !(names.any fun y=>decide (g.name=y)) && g.params.all (parOk N i)
def funsOk (N:Nat):Nat → List ByteArray → List CFun → Bool
 | _,_,[]=>true
 | i,names,g :: gs=>funOk N i names g && funsOk N (i + 1) (names ++ [g.name]) gs
def headsOk (c:Core):Bool:=decide (1 ≤ c.funs.length) && decide (c.funs.length ≤ 12) && funsOk c.decls.length 0 [] c.funs
end Go.Sim.Kd
namespace Go.Sim.Kd
open Go Go.Sim
def bodyScope (co:Bool) (g:CFun):Int → Bool:=pos (addAll (fun _=>0) (parOf co (g.params.zip g.vars)))
def bodyOk (c:Core) (g:CFun):Bool:=decide ((nAll g.body:Int) ≤ 30000) && decide (nDepth g.body ≤ 4000) && decide (sortOf g.body.op=2) && vN c.decls c.funs g.body (bodyScope false g) (bodyScope true g)
def coreOk (c:Core):Bool:=declsValid c.decls && headsOk c && c.funs.all (bodyOk c) && decide (szL (fun g=>nNodes g.body) c.funs ≤ 30000)
theorem Bn_zero:Bn (fun _=>0) 0:=fun _=>⟨Int.le_refl 0,Int.le_refl 0⟩
theorem funsOk_mem {N:Nat}:∀ {gs:List CFun} {i:Nat} {names:List ByteArray},funsOk N i names gs=true → ∀ g ∈ gs,g.params.length ≤ 6 ∧ g.vars.length=g.params.length
 | [],_,_,_,g,hg=>by cases hg
 | x :: gs,i,names,h,g,hg=>by
   simp only [funsOk,funOk,Bool.and_eq_true,decide_eq_true_eq] at h
   cases hg with
   | head=>exact ⟨h.1.1.1.1.1.2,h.1.1.1.1.2⟩
   | tail _ hg=>exact funsOk_mem h.2 g hg
theorem headsOk_mem {c:Core} (h:headsOk c=true):∀ g ∈ c.funs,g.params.length ≤ 6 ∧ g.vars.length=g.params.length:=by
 simp only [headsOk,Bool.and_eq_true] at h
 exact funsOk_mem h.2
end Go.Sim.Kd
namespace Go.Sim.Kd
open Go Go.Sim
def keyP (q:Int × Bool):Int × Int:=(sideOf q.2,q.1)
theorem keyP_inj {a b:Int × Bool} (h:keyP a=keyP b):a=b:=by
 obtain ⟨x,c⟩:=a
 obtain ⟨y,d⟩:=b
 simp only [keyP,Prod.mk.injEq] at h
 obtain ⟨h1,rfl⟩:=h
 cases c <;> cases d <;> simp_all [sideOf]
theorem keyP_any (l:List (Int × Bool)) (x:Int × Bool):((l.map keyP).any fun y=>decide (y=keyP x))=l.any fun y=>decide (y=x):=by
 rw [List.any_map]
 congr 1
 funext y
 rw [Bool.eq_iff_iff]
 simp only [Function.comp_apply,decide_eq_true_eq]
 exact ⟨keyP_inj,fun e=>by rw [e]⟩
theorem binds_l {pm:Nat} (vars:List Int) (cos:List Bool) (hl:vars.length=cos.length) (i:Nat) (hi:i ≤ vars.length) (hs:vars.length ≤ 2 ^ 40) {n:Nat} {v:Nat → Bool} {D:List (Nat × List AV)} {S:Sg} {Q:Ex → Fr → Prop}
 (hM:S.ob pm=some (.map (.int2 .i64) (setP (((vars.zip cos).take i).map keyP)))) (hX:∀ j S',distinctOk ((vars.zip cos).take i) ((vars.zip cos).drop i)=true → Chg (·=pm) S S' → Q (.exit 0) ⟨upd (upd (upd (upd (upd (upd ((fun _=>none)) 18 (some (.val (B false)))) 17 (some (.val (I j)))) 16 (some (.val (I (vars.map I).length)))) 15 (some (.val (.slice .none 1 (vars.map I))))) 5 (some (.val (.map pm)))) 1 (some (.val (bools cos))),(fun _=>none),n,v,D,S'⟩)
 (hR:distinctOk ((vars.zip cos).take i) ((vars.zip cos).drop i)=false → ∀ S',Chg (·=pm) S S' → Q .ret ⟨upd ((fun _=>none)) 4 (some (.val (B false))),(fun _=>none),n,v,D,S'⟩):EX (callL p) (.loop F90_l1) ⟨upd (upd (upd (upd (upd ((fun _=>none)) 17 (some (.val (I i)))) 16 (some (.val (I (vars.map I).length)))) 15 (some (.val (.slice .none 1 (vars.map I))))) 5 (some (.val (.map pm)))) 1 (some (.val (bools cos))),(fun _=>none),n,v,D,S⟩ Q:=by
 refine eloop (eseq (ereg (qp rfl (qb ?_))))
 rintro (_ | _) h1
 ·refine qk (kc rfl (kc rfl (kc rfl (kc rfl (kc rfl (kc rfl kn)))))) kn (sqn (eseq (ecF rfl (eexit (sqx ?_)))))
  exact hX _ _ (by rw [List.drop_eq_nil_of_le (by simp at h1 ⊢;omega)];rfl) (Chg.refl _)
 ·refine qk (kc rfl (kc rfl (kc rfl (kc rfl (kc rfl (kc rfl kn)))))) kn (sqn (eseq (ecT rfl (eskip (sqn (eseq (eblock (eseq (ereg (qp rfl ?_))))))))))
  have hlt:i < vars.length:=by simpa using h1
  obtain ⟨a,ha⟩:=get_of_lt hlt
  have hd:=drop_cons ha
  refine hia (y:=I a) rfl rfl (by omega) (by simp [ha]) rfl (qp rfl (qp rfl (qp rfl (qk (kc rfl (kc rfl (kc rfl (kc rfl (kc rfl (kc rfl (kc rfl kn))))))) kn (sqn (eseq (ereg (qp rfl (qp rfl ?_)))))))))
  obtain ⟨c,hc⟩:=get_of_lt (l:=cos) (i:=i) (by omega)
  have hz:=drop_cons (zip_at ha hc)
  refine hia (y:=B c) rfl rfl (by omega) (by simp [hc]) rfl (qp rfl (hcall rfl rfl rfl (cside_c _ c) ?_))
  rintro _ _ ⟨rfl,hq⟩
  obtain rfl:=hq.symm
  refine qp rfl (hbuild rfl rfl (lc rfl (lc rfl (ln rfl))) (hal (dc (dc (dc (dc (dc (dc (dc (dc (dc (dc (dc (dc (dc (dc dn rfl) rfl) rfl) rfl) rfl) rfl) rfl) rfl) rfl) rfl) rfl) rfl) rfl) rfl) (hstl rfl rfl rfl rfl (Nat.le_of_ble_eq_true rfl) (lc rfl (lc rfl (ln rfl))) (qk (kc rfl (kc rfl (kc rfl (kc rfl (kc rfl (kc rfl (kc rfl kn))))))) (kc rfl kn) (sqn (eseq (eseq (ereg (qp rfl (hcall rfl rfl rfl (number_c _ a) ?_))))))))))
  rintro _ _ ⟨rfl,hq⟩
  obtain rfl:=hq.symm
  refine qb ?_
  rintro (_ | _) h2
  ·refine qp rfl (qp rfl (qs rfl rfl (by decide) (qs rfl rfl (by decide) (qs rfl rfl (by decide) (qp rfl (qk (kc rfl (kc rfl (kc rfl (kc rfl (kc rfl (kc rfl (kc rfl kn))))))) (kc rfl kn) (sqn (ecT rfl (eseq (ereg (qp rfl (qk (kc rfl kn) kn (sqn (eret (sqr (bqr (sqr ?_)))))))))))))))))
   first
   | (have hnum:numOk a=false:=by assumption
      exact hR (by rw [hz];simp only [distinctOk,hnum,Bool.false_and]) _ (Chg.refl _))
   | (have hn:(((vars.zip cos).take i).any fun q=>decide (q=(a,c)))=true:=by assumption
      exact hR (by rw [hz];simp only [distinctOk,hn,Bool.not_true,Bool.and_false,Bool.false_and]) _ (Chg.refl _))
  ·refine qp rfl (qp rfl (qg rfl (qp rfl (qg rfl (hlda rfl rfl (lc rfl (lc rfl (ln rfl))) (qg rfl (hlk (key:=pairV (keyP (a,c))) rfl rfl rfl hM ?_)))))))
   rw [setP_get,keyP_any]
   refine qb ?_
   rintro (_ | _) h3
   ·refine qp rfl (qk (kc rfl (kc rfl (kc rfl (kc rfl (kc rfl (kc rfl (kc rfl kn))))))) (kc rfl kn) (sqn (ecF rfl (eskip (sqn (ereg (qp rfl (hlda rfl rfl (lc rfl (lc rfl (ln rfl))) (hmu (key:=pairV (keyP (a,c))) rfl rfl rfl rfl hM ?_)))))))))
    rw [show (AV.lit (.bool true)).er=B true from rfl,setP_add]
    refine qk (kc rfl (kc rfl (kc rfl (kc rfl (kc rfl kn))))) kn (bqn (sqn (ereg (hadd rfl rfl (i64w (by omega)) (qp rfl (qk (kc rfl (kc rfl (kc rfl (kc rfl (kc rfl kn))))) kn ?_))))))
    have ht:(vars.zip cos).take (i + 1)=(vars.zip cos).take i ++ [(a,c)]:=by simp [List.take_add_one,zip_at ha hc]
    have hnum:numOk a=true:=by assumption
    have hn:(((vars.zip cos).take i).any fun q=>decide (q=(a,c)))=false:=by assumption
    have hy:distinctOk ((vars.zip cos).take i) ((vars.zip cos).drop i)=distinctOk ((vars.zip cos).take (i + 1)) ((vars.zip cos).drop (i + 1)):=by
     rw [hz,ht]
     simp only [distinctOk,hnum,hn,Bool.true_and,Bool.not_false]
    have hcc:Chg (·=pm) S (S.set pm (.map (.int2 .i64) (setP (((vars.zip cos).take i).map keyP ++ [keyP (a,c)])))):=(Chg.refl S).set fun _=>rfl
    exact binds_l vars cos hl (i + 1) (by omega) hs (by rw [ht,List.map_append];exact set_ob) (fun j S' h cc=>hX j S' (hy.trans h) (hcc.trans cc)) (fun h S' cc=>hR (hy.trans h) S' (hcc.trans cc))
   ·refine qp rfl (qk (kc rfl (kc rfl (kc rfl (kc rfl (kc rfl (kc rfl (kc rfl kn))))))) (kc rfl kn) (sqn (ecT rfl (eseq (ereg (qp rfl (qk (kc rfl kn) kn (sqn (eret (sqr (bqr (sqr ?_))))))))))))
    first
    | (have hnum:numOk a=false:=by assumption
       exact hR (by rw [hz];simp only [distinctOk,hnum,Bool.false_and]) _ (Chg.refl _))
    | (have hn:(((vars.zip cos).take i).any fun q=>decide (q=(a,c)))=true:=by assumption
       exact hR (by rw [hz];simp only [distinctOk,hn,Bool.not_true,Bool.and_false,Bool.false_and]) _ (Chg.refl _))
termination_by vars.length - i
decreasing_by all_goals omega
theorem binds_c (s:Sg) (vars:List Int) (cos:List Bool) (hzz:vars.length ≤ 2 ^ 40):HC p N90_ [ints vars,bools cos] s (fun r s'=>r=[B (decide (vars.length=cos.length) && distinctOk [] (vars.zip cos))] ∧ Ext s s'):=by
 refine hcf rfl f90_ rfl ?_
 simp only [chainOf]
 refine eseq (ereg (qp rfl (qk (kc rfl (kc rfl kn)) kn (sqn (eseq (eseq (ereg (qp rfl (qp rfl (qp rfl (qp rfl (qp rfl (qb ?_)))))))))))))
 rintro (_ | _) h1
 ·refine qk (kc rfl (kc rfl (kc rfl kn))) kn (sqn (ecF rfl (eskip (sqn (eseq (ereg (hmkm (qp rfl (qk (kc rfl (kc rfl (kc rfl kn))) kn (sqn (eseq (eseq (ereg (qp rfl (qp rfl (qp rfl (qk (kc rfl (kc rfl (kc rfl (kc rfl (kc rfl kn))))) kn (sqn (eblock ?_)))))))))))))))))))
  refine binds_l vars cos (by simp at h1;omega) 0 (by omega) hzz (by rw [List.take_zero,List.map_nil,setP_nil];exact new_ob) ?_ ?_
  ·intro j S1 hj hc
   refine bqx (sqn (eseq (ereg (qp rfl (qk (kc rfl kn) kn (sqn (eret (fqr rfl ?_))))))))
   first
   | (have e:decide (vars.length=cos.length)=false:=by simp at h1 ⊢;omega
      exact ⟨by rw [e];rfl,Ext.refl _⟩)
   | (have e:decide (vars.length=cos.length)=true:=by simp at h1 ⊢;omega
      have hx:=hj
      simp only [List.take_zero,List.drop_zero] at hx
      exact ⟨by rw [e,hx];rfl,(((Chg.refl s).new).trans (hc.mono fun i _ h=>by rw [h];exact Nat.le_refl _)).ext (X:=fun i=>s.nx ≤ i) fun i h=>h⟩)
  ·intro hj S1 hc
   refine bqr (sqr (fqr rfl ?_))
   first
   | (have e:decide (vars.length=cos.length)=false:=by simp at h1 ⊢;omega
      exact ⟨by rw [e];rfl,Ext.refl _⟩)
   | (have e:decide (vars.length=cos.length)=true:=by simp at h1 ⊢;omega
      have hx:=hj
      simp only [List.take_zero,List.drop_zero] at hx
      exact ⟨by rw [e,hx];rfl,(((Chg.refl s).new).trans (hc.mono fun i _ h=>by rw [h];exact Nat.le_refl _)).ext (X:=fun i=>s.nx ≤ i) fun i h=>h⟩)
 ·refine qk (kc rfl (kc rfl (kc rfl kn))) kn (sqn (ecT rfl (eseq (ereg (qp rfl (qk (kc rfl kn) kn (sqn (eret (sqr (fqr rfl ?_))))))))))
  first
  | (have e:decide (vars.length=cos.length)=false:=by simp at h1 ⊢;omega
     exact ⟨by rw [e];rfl,Ext.refl _⟩)
  | (have e:decide (vars.length=cos.length)=true:=by simp at h1 ⊢;omega
     have hx:=hj
     simp only [List.take_zero,List.drop_zero] at hx
     exact ⟨by rw [e,hx];rfl,(((Chg.refl s).new).trans (hc.mono fun i _ h=>by rw [h];exact Nat.le_refl _)).ext (X:=fun i=>s.nx ≤ i) fun i h=>h⟩)
end Go.Sim.Kd
namespace Go.Sim.Kd
open Go Go.Sim
def setM (X:Int → Bool):Value → Option AV
 | .int .i64 n=>if X n=true then some (B true) else none
 | _=>none
theorem setM_add (X:Int → Bool) (v:Int):mset (setM X) (.int .i64 v) (some (B true))=setM (addV X v):=by
 funext k
 unfold mset
 by_cases h:k=.int .i64 v
 ·subst h;simp [setM,addV]
 ·rw [if_neg h]
  cases k <;> try rfl
  rename_i kd n
  cases kd <;> try rfl
  have hne:n ≠ v:=fun e=>h (by rw [e])
  simp [setM,addV,hne]
theorem setM_get (X:Int → Bool) (v:Int):(setM X (.int .i64 v)).getD (B false)=B (X v):=by
 simp only [setM]
 cases X v <;> rfl
structure PS (i0 i1:Nat) (X A:Int → Bool) (S:Sg):Prop where
 h0:S.ob i0=some (.map (.int .i64) (setM X))
 h1:S.ob i1=some (.map (.int .i64) (setM A))
 l0:i0 < S.nx
 l1:i1 < S.nx
 ne:i0 ≠ i1
theorem PS.add0 {i0 i1:Nat} {X A:Int → Bool} {S:Sg} (h:PS i0 i1 X A S) (v:Int):PS i0 i1 (addV X v) A (S.set i0 (.map (.int .i64) (setM (addV X v)))) :=
 ⟨set_ob,by rw [set_ne (Ne.symm h.ne)];exact h.h1,h.l0,h.l1,h.ne⟩
theorem PS.add1 {i0 i1:Nat} {X A:Int → Bool} {S:Sg} (h:PS i0 i1 X A S) (v:Int):PS i0 i1 X (addV A v) (S.set i1 (.map (.int .i64) (setM (addV A v)))) :=
 ⟨by rw [set_ne h.ne];exact h.h0,set_ob,h.l0,h.l1,h.ne⟩
theorem PS.keep {i0 i1:Nat} {X A:Int → Bool} {S S':Sg} {Y:Nat → Prop} (h:PS i0 i1 X A S) (k:Chg Y S S') (h0:¬ Y i0) (h1:¬ Y i1):PS i0 i1 X A S' :=
 ⟨(k.ob i0 h.l0 h0).trans h.h0,(k.ob i1 h.l1 h1).trans h.h1,Nat.lt_of_lt_of_le h.l0 k.nx,Nat.lt_of_lt_of_le h.l1 k.nx,h.ne⟩
def setL (X:Int → Bool):List Int → (Int → Bool)
 | []=>X
 | v :: vs=>setL (addV X v) vs
theorem cNS_l1 {i0 i1:Nat} (l:List Int) (X A:Int → Bool) (i:Nat) (hi:i ≤ l.length) (hs:l.length ≤ 2 ^ 40) {x1:AV} {n:Nat} {v:Nat → Bool} {D:List (Nat × List AV)} {S:Sg} {Q:Ex → Fr → Prop}
 (hS:PS i0 i1 X A S) (hX:∀ j S',PS i0 i1 (setL X (l.drop i)) A S' → Chg (IXA i0 i1) S S' → Q (.exit 0) ⟨upd (upd (upd (upd (upd (upd (upd ((fun _=>none)) 16 (some (.val (B false)))) 15 (some (.val (I j)))) 14 (some (.val (I (l.map I).length)))) 13 (some (.val (.slice .none 1 (l.map I))))) 5 (some (.loc 5 0))) 4 (some (.loc 4 0))) 1 (some (.val x1)),upd (upd ((fun _=>none)) 5 (some ([.map i0,.map i1]))) 4 (some ([.lit (.map none),.lit (.map none)])),n,v,D,S'⟩):EX (callL p) (.loop F91_l1) ⟨upd (upd (upd (upd (upd (upd ((fun _=>none)) 15 (some (.val (I i)))) 14 (some (.val (I (l.map I).length)))) 13 (some (.val (.slice .none 1 (l.map I))))) 5 (some (.loc 5 0))) 4 (some (.loc 4 0))) 1 (some (.val x1)),upd (upd ((fun _=>none)) 5 (some ([.map i0,.map i1]))) 4 (some ([.lit (.map none),.lit (.map none)])),n,v,D,S⟩ Q:=by
 refine eloop (eseq (ereg (qp rfl (qb ?_))))
 rintro (_ | _) h1
 ·refine qk (kc rfl (kc rfl (kc rfl (kc rfl (kc rfl (kc rfl (kc rfl kn))))))) (kc rfl (kc rfl kn)) (sqn (eseq (ecF rfl (eexit (sqx ?_)))))
  exact hX _ _ (by rw [List.drop_eq_nil_of_le (by simp at h1 ⊢;omega)];exact hS) (Chg.refl _)
 ·refine qk (kc rfl (kc rfl (kc rfl (kc rfl (kc rfl (kc rfl (kc rfl kn))))))) (kc rfl (kc rfl kn)) (sqn (eseq (ecT rfl (eskip (sqn (eseq (eblock (eseq (ereg ?_)))))))))
  have hlt:i < l.length:=by simpa using h1
  obtain ⟨a,ha⟩:=get_of_lt hlt
  have hd:=drop_cons ha
  refine hia (y:=I a) rfl rfl (by omega) (by simp [ha]) rfl (qp rfl (qp rfl (qk (kc rfl (kc rfl (kc rfl (kc rfl (kc rfl (kc rfl (kc rfl kn))))))) (kc rfl (kc rfl kn)) (sqn (ereg (qp rfl (qp rfl (qp rfl (hmu rfl rfl rfl rfl hS.h0 ?_)))))))))
  rw [show (AV.lit (.bool true)).er=B true from rfl,setM_add]
  refine qk (kc rfl (kc rfl (kc rfl (kc rfl (kc rfl (kc rfl kn)))))) (kc rfl (kc rfl kn)) (bqn (sqn (ereg (hadd rfl rfl (i64w (by omega)) (qp rfl (qk (kc rfl (kc rfl (kc rfl (kc rfl (kc rfl (kc rfl kn)))))) (kc rfl (kc rfl kn)) ?_))))))
  have hS1:=hS.add0 a
  have hc1:Chg (IXA i0 i1) S _:=(Chg.refl S).set (i:=i0) (o:=.map (.int .i64) (setM (addV X a))) fun _=>.inl rfl
  exact cNS_l1 l _ A (i + 1) (by omega) hs hS1 (fun j S2 h c=>hX j S2 (by rw [hd];exact h) (hc1.trans c))
termination_by l.length - i
decreasing_by all_goals omega
theorem cNS_l2 {i0 i1:Nat} (l:List Int) (X A:Int → Bool) (i:Nat) (hi:i ≤ l.length) (hs:l.length ≤ 2 ^ 40) {n:Nat} {v:Nat → Bool} {D:List (Nat × List AV)} {S:Sg} {Q:Ex → Fr → Prop}
 (hS:PS i0 i1 X A S) (hX:∀ j S',PS i0 i1 X (setL A (l.drop i)) S' → Chg (IXA i0 i1) S S' → Q (.exit 2) ⟨upd (upd (upd (upd (upd (upd ((fun _=>none)) 26 (some (.val (B false)))) 25 (some (.val (I j)))) 24 (some (.val (I (l.map I).length)))) 23 (some (.val (.slice .none 1 (l.map I))))) 5 (some (.loc 5 0))) 4 (some (.loc 4 0)),upd (upd ((fun _=>none)) 5 (some ([.map i0,.map i1]))) 4 (some ([.lit (.map none),.lit (.map none)])),n,v,D,S'⟩):EX (callL p) (.loop F91_l2) ⟨upd (upd (upd (upd (upd ((fun _=>none)) 25 (some (.val (I i)))) 24 (some (.val (I (l.map I).length)))) 23 (some (.val (.slice .none 1 (l.map I))))) 5 (some (.loc 5 0))) 4 (some (.loc 4 0)),upd (upd ((fun _=>none)) 5 (some ([.map i0,.map i1]))) 4 (some ([.lit (.map none),.lit (.map none)])),n,v,D,S⟩ Q:=by
 refine eloop (eseq (ereg (qp rfl (qb ?_))))
 rintro (_ | _) h1
 ·refine qk (kc rfl (kc rfl (kc rfl (kc rfl (kc rfl (kc rfl kn)))))) (kc rfl (kc rfl kn)) (sqn (eseq (ecF rfl (eexit (sqx ?_)))))
  exact hX _ _ (by rw [List.drop_eq_nil_of_le (by simp at h1 ⊢;omega)];exact hS) (Chg.refl _)
 ·refine qk (kc rfl (kc rfl (kc rfl (kc rfl (kc rfl (kc rfl kn)))))) (kc rfl (kc rfl kn)) (sqn (eseq (ecT rfl (eskip (sqn (eseq (eblock (eseq (ereg ?_)))))))))
  have hlt:i < l.length:=by simpa using h1
  obtain ⟨a,ha⟩:=get_of_lt hlt
  have hd:=drop_cons ha
  refine hia (y:=I a) rfl rfl (by omega) (by simp [ha]) rfl (qp rfl (qp rfl (qk (kc rfl (kc rfl (kc rfl (kc rfl (kc rfl (kc rfl kn)))))) (kc rfl (kc rfl kn)) (sqn (ereg (qp rfl (qp rfl (qp rfl (hmu rfl rfl rfl rfl hS.h1 ?_)))))))))
  rw [show (AV.lit (.bool true)).er=B true from rfl,setM_add]
  refine qk (kc rfl (kc rfl (kc rfl (kc rfl (kc rfl kn))))) (kc rfl (kc rfl kn)) (bqn (sqn (ereg (hadd rfl rfl (i64w (by omega)) (qp rfl (qk (kc rfl (kc rfl (kc rfl (kc rfl (kc rfl kn))))) (kc rfl (kc rfl kn)) ?_))))))
  have hS1:=hS.add1 a
  have hc1:Chg (IXA i0 i1) S _:=(Chg.refl S).set (i:=i1) (o:=.map (.int .i64) (setM (addV A a))) fun _=>.inr rfl
  exact cNS_l2 l X _ (i + 1) (by omega) hs hS1 (fun j S2 h c=>hX j S2 (by rw [hd];exact h) (hc1.trans c))
termination_by l.length - i
decreasing_by all_goals omega
theorem setM_nil:setM (fun _=>false)=fun _=>none:=by
 funext k
 cases k <;> try rfl
 rename_i kd n
 cases kd <;> rfl
theorem ps_init (s:Sg):PS s.nx (s.nx + 1) (fun _=>false) (fun _=>false) ((s.new (.map (.int .i64) fun _=>none)).new (.map (.int .i64) fun _=>none)):=by
 refine ⟨?_,?_,?_,?_,?_⟩
 ·rw [setM_nil,new_lt (by simp only [Sg.new];omega)];exact new_ob
 ·rw [setM_nil];exact new_ob
 all_goals first | (simp only [Sg.new];omega) | omega
theorem cNewScope_c (s:Sg) (xs ys:List Int) (h1:xs.length ≤ 2 ^ 40) (h2:ys.length ≤ 2 ^ 40):HC p N91_ [ints xs,ints ys] s (fun r s'=>∃ i0 i1,r=[.agg [.map i0,.map i1]] ∧ PS i0 i1 (setL (fun _=>false) xs) (setL (fun _=>false) ys) s' ∧ Ext s s' ∧ s.nx ≤ i0 ∧ s.nx ≤ i1):=by
 refine hcf rfl f91_ rfl ?_
 simp only [chainOf]
 refine eseq (ereg (hal (dc (dc dn rfl) rfl) (qk (kc rfl (kc rfl (kc rfl kn))) (kc rfl kn) (sqn (eseq (ereg (hmkm (hmkm (hbuild rfl rfl (lc rfl (lc rfl (ln rfl))) (hal (dc (dc (dc (dc (dc (dc dn rfl) rfl) rfl) rfl) rfl) rfl) (hstl rfl rfl rfl rfl (Nat.le_of_ble_eq_true rfl) (lc rfl (lc rfl (ln rfl))) (qk (kc rfl (kc rfl (kc rfl (kc rfl kn)))) (kc rfl (kc rfl kn)) (sqn (eseq (eseq (ereg (qp rfl (qp rfl (qp rfl (qk (kc rfl (kc rfl (kc rfl (kc rfl (kc rfl (kc rfl kn)))))) (kc rfl (kc rfl kn)) (sqn (eblock (cNS_l1 xs _ _ 0 (by omega) h1 (ps_init s) ?_)))))))))))))))))))))))
 ·intro j S1 hS1 hc1
  refine bqx (sqn (eseq (eseq (ereg (qp rfl (qp rfl (qp rfl (qk (kc rfl (kc rfl (kc rfl (kc rfl (kc rfl kn))))) (kc rfl (kc rfl kn)) (sqn (eblock (cNS_l2 ys _ _ 0 (by omega) h2 hS1 ?_)))))))))))
  ·intro q S2 hS2 hc2
   refine bqx (sqn (eseq (ereg (hlda rfl rfl (lc rfl (lc rfl (ln rfl))) (hstl rfl rfl rfl rfl (Nat.le_of_ble_eq_true rfl) (lc rfl (lc rfl (ln rfl))) (qk (kc rfl kn) (kc rfl kn) (sqn (eret (fqr rfl ?_)))))))))
   have en:(s.new (.map (.int .i64) fun _=>none)).nx=s.nx + 1:=rfl
   exact ⟨_,_,rfl,hS2,((Chg.new (Chg.new (Chg.refl s))).trans (hc1.trans hc2)).ext fun i h=>by rcases h with h | h <;> omega,Nat.le_refl _,by omega⟩
end Go.Sim.Kd
namespace Go.Sim.Kd
open Go Go.Sim
theorem addV_old {X:Int → Bool} {v:Int} (h:X v=true):addV X v=X:=by
 funext n
 unfold addV
 by_cases hn:n=v
 ·subst hn;simp [h]
 ·simp [hn]
def newP (X A:Int → Bool):List Int → List Bool → List (Bool × Int)
 | [],_=>[]
 | v :: vs,cs=>(if (if cs.headD false=true then A else X) v=true then [] else [(cs.headD false,v)]) ++ newP (if cs.headD false=false then addV X v else X) (if cs.headD false=true then addV A v else A) vs cs.tail
def delV (X:Int → Bool) (v:Int):Int → Bool:=fun n=>!decide (n=v) && X n
theorem setM_delV (X:Int → Bool) (v:Int):mset (setM X) (.int .i64 v) none=setM (delV X v):=by
 funext k
 unfold mset
 by_cases h:k=.int .i64 v
 ·subst h;simp [setM,delV]
 ·rw [if_neg h]
  cases k <;> try rfl
  rename_i kd n
  cases kd <;> try rfl
  have hne:n ≠ v:=fun e=>h (by rw [e])
  simp [setM,delV,hne]
abbrev encP (q:Bool × Int):AV:=.agg [I (sideOf q.1),I q.2]
def CanG (g0:Nat) (o:Own) (S:Sg):Prop:=o=.full ∨ ∃ g,o=.gt g ∧ S.gl g=true ∧ g < S.gn ∧ g0 ≤ g
structure EN (g0 bs ba i0 i1:Nat) (X A:Int → Bool) (ad:List (Bool × Int)) (S:Sg):Prop where
 hB:S.ob bs=some (.row [.map i0,.map i1])
 hA:∃ o,S.ob ba=some (.row [.slice o 2 (ad.map encP)]) ∧ CanG g0 o S
 hS:PS i0 i1 X A S
 bl:bs < S.nx
 al:ba < S.nx
 ba':bs ≠ ba
 b0:bs ≠ i0
 b1:bs ≠ i1
 a0:ba ≠ i0
 a1:ba ≠ i1
theorem PS.at {i0 i1:Nat} {X A:Int → Bool} {S:Sg} (h:PS i0 i1 X A S) (c:Bool):S.ob (if c then i1 else i0)=some (.map (.int .i64) (setM (if c then A else X))):=by
 cases c
 ·exact h.h0
 ·exact h.h1
section
variable {c:Caller} {E:Nat → Option TV} {L:Nat → Option (List AV)} {n:Nat} {v:Nat → Bool} {D:List (Nat × List AV)} {S:Sg} {l:List AIns} {Q:Fr → Prop}
theorem hapO {d sz by_ g0:Nat} {s x:AO} {o o':Own} {xs ys r:List AV} (h1:evV E s=some (.slice o sz xs)) (h2:evV E x=some (.slice o' sz ys)) (hc:CanG g0 o S) (hne:ys ≠ []) (hlen:(xs.length + ys.length) * by_ ≤ 2 ^ 47) (hr:xs ++ ys=r)
 (k:∀ v' S',v' n=true → (∀ j,j ≠ n → v' j=v j) → S'.ob=S.ob → S'.nx=S.nx → S'.gn=S.gn → (∀ g,g < g0 → S'.gl g=S.gl g) → S'.Q=S.Q → HL c l ⟨upd E d (some (.val (.slice (.tip n) sz r))),L,n + 1,v',D,S'⟩ Q):HL c (⟨some d,none,.app sz by_ s x⟩ :: l) ⟨E,L,n,v,D,S⟩ Q:=by
 rcases hc with rfl | ⟨g,rfl,hg,_,hg0⟩
 ·subst hr
  exact hapF h1 h2 hne hlen fun v' a b=>k v' S a b rfl rfl rfl (fun _ _=>rfl) rfl
 ·exact hapG h1 h2 hg hne hlen hr fun v' S' a b e1 e2 e3 e4 e5=>k v' S' a b e1 e2 e3 (fun j hj=>e4 j (by omega)) e5
end
theorem EN.old {g0 bs ba i0 i1:Nat} {X A:Int → Bool} {ad:List (Bool × Int)} {S:Sg} (h:EN g0 bs ba i0 i1 X A ad S) {c:Bool} {a:Int} (e:(if c then A else X) a=true) :
 EN g0 bs ba i0 i1 (if c=false then addV X a else X) (if c=true then addV A a else A) (ad ++ (if (if c then A else X) a=true then [] else [(c,a)])) S:=by
 rw [if_pos e,List.append_nil]
 cases c with
 | true=>rw [if_pos rfl,if_neg (by simp),addV_old (by simpa using e)];exact h
 | false=>rw [if_pos rfl,if_neg (by simp),addV_old (by simpa using e)];exact h
theorem newP_cons (X A:Int → Bool) (v:Int) (vs:List Int) (cs:List Bool) (c:Bool) (h:cs.headD false=c):newP X A (v :: vs) cs=(if (if c then A else X) v=true then [] else [(c,v)]) ++ newP (if c=false then addV X v else X) (if c=true then addV A v else A) vs cs.tail:=by
 rw [newP,h]
theorem addsV_cons (w:Bool) (X:Int → Bool) (v:Int) (vs:List Int) (cs:List Bool) (c:Bool) (h:cs.headD false=c):addsV w X (v :: vs) cs=addsV w (if c=w then addV X v else X) vs cs.tail:=by rw [addsV,h]
theorem EN.fin {g0 bs ba i0 i1:Nat} {X A:Int → Bool} {ad:List (Bool × Int)} {S:Sg} {vars:List Int} {cos:List Bool} {i:Nat} {a:Int} {c:Bool} (hd:vars.drop i=a :: vars.drop (i + 1)) (hcd:(cos.drop i).headD false=c)
 (h:EN g0 bs ba i0 i1 (addsV false (if c=false then addV X a else X) (vars.drop (i + 1)) (cos.drop (i + 1))) (addsV true (if c=true then addV A a else A) (vars.drop (i + 1)) (cos.drop (i + 1)))
   (ad ++ (if (if c then A else X) a=true then [] else [(c,a)]) ++ newP (if c=false then addV X a else X) (if c=true then addV A a else A) (vars.drop (i + 1)) (cos.drop (i + 1))) S) :
 EN g0 bs ba i0 i1 (addsV false X (vars.drop i) (cos.drop i)) (addsV true A (vars.drop i) (cos.drop i)) (ad ++ newP X A (vars.drop i) (cos.drop i)) S:=by
 rw [hd,addsV_cons _ _ _ _ _ c hcd,addsV_cons _ _ _ _ _ c hcd,newP_cons _ _ _ _ _ c hcd,List.tail_drop,← List.append_assoc]
 exact h
theorem EN.more {g0 bs ba i0 i1:Nat} {X A:Int → Bool} {ad:List (Bool × Int)} {S S3:Sg} {c:Bool} {a:Int} {g:Nat} (h:EN g0 bs ba i0 i1 X A ad S) (e:(if c then A else X) a=false)
 (f1:S3.ob=upd (S.set (if c then i1 else i0) (.map (.int .i64) (setM (addV (if c then A else X) a)))).ob ba (some (.row [.slice (.gt g) 2 (ad.map encP ++ [.agg [I (sideOf c),I a]])]))) (f2:S3.nx=S.nx) (f3:g < S3.gn) (f4:S3.gl g=true) (f5:g0 ≤ g) :
 EN g0 bs ba i0 i1 (if c=false then addV X a else X) (if c=true then addV A a else A) (ad ++ (if (if c then A else X) a=true then [] else [(c,a)])) S3:=by
 have ho:∀ j,j ≠ ba → S3.ob j=(S.set (if c then i1 else i0) (.map (.int .i64) (setM (addV (if c then A else X) a)))).ob j:=fun j hj=>by rw [f1,upd_ne _ _ hj]
 have hb:∀ j,j ≠ ba → j ≠ (if c then i1 else i0) → S3.ob j=S.ob j:=fun j hj hk=>by rw [ho j hj,set_ne hk]
 refine ⟨?_,⟨.gt g,?_,.inr ⟨g,rfl,f4,f3,f5⟩⟩,?_,by rw [f2];exact h.bl,by rw [f2];exact h.al,h.ba',h.b0,h.b1,h.a0,h.a1⟩
 ·rw [hb bs h.ba' (by cases c;exact h.b0;exact h.b1)];exact h.hB
 ·rw [f1,upd_same,if_neg (by rw [e];simp),List.map_append];rfl
 ·cases c with
  | true=>exact ⟨by rw [hb i0 (Ne.symm h.a0) h.hS.ne];exact h.hS.h0,by rw [ho i1 (Ne.symm h.a1)];exact set_ob,by rw [f2];exact h.hS.l0,by rw [f2];exact h.hS.l1,h.hS.ne⟩
  | false=>exact ⟨by rw [ho i0 (Ne.symm h.a0)];exact set_ob,by rw [hb i1 (Ne.symm h.a1) (Ne.symm h.hS.ne)];exact h.hS.h1,by rw [f2];exact h.hS.l0,by rw [f2];exact h.hS.l1,h.hS.ne⟩
theorem EN.chg {bs ba i0 i1:Nat} {X A:Int → Bool} {ad:List (Bool × Int)} {S0 S S3:Sg} {c:Bool} {o y:AObj} (h:EN S0.gn bs ba i0 i1 X A ad S) (h0:Chg (fun j=>j=ba ∨ j=i0 ∨ j=i1) S0 S)
 (f1:S3.ob=upd (S.set (if c then i1 else i0) o).ob ba (some y)) (f2:S3.nx=S.nx) (f3:S.gn ≤ S3.gn) (f4:∀ g,g < S0.gn → S3.gl g=S.gl g) (f5:S3.Q=S.Q):Chg (fun j=>j=ba ∨ j=i0 ∨ j=i1) S0 S3:=by
 refine ⟨by have:=h0.nx;omega,fun j hj hx=>?_,by have:=h0.gn;omega,fun g hg=>(f4 g hg).trans (h0.gl g hg),f5.trans h0.Q⟩
 rw [f1,upd_ne _ _ (fun e=>hx (.inl e)),set_ne]
 ·exact h0.ob j hj hx
 ·intro e
  cases c
  ·exact hx (.inr (.inl e))
  ·exact hx (.inr (.inr e))
theorem enter_l {bs ba i0 i1:Nat} {S0:Sg} (vars:List Int) (cos:List Bool) (hl:vars.length ≤ cos.length) (X A:Int → Bool) (ad:List (Bool × Int)) (i:Nat) (hi:i ≤ vars.length) (hs:vars.length ≤ 2 ^ 40) {n:Nat} {v:Nat → Bool} {D:List (Nat × List AV)} {S:Sg} {Q:Ex → Fr → Prop}
 (had:ad.length ≤ i) (hE:EN S0.gn bs ba i0 i1 X A ad S) (hc0:Chg (fun j=>j=ba ∨ j=i0 ∨ j=i1) S0 S)
 (hX:∀ j S' n' v',EN S0.gn bs ba i0 i1 (addsV false X (vars.drop i) (cos.drop i)) (addsV true A (vars.drop i) (cos.drop i)) (ad ++ newP X A (vars.drop i) (cos.drop i)) S' → Chg (fun j=>j=ba ∨ j=i0 ∨ j=i1) S0 S' → Q (.exit 0) ⟨upd (upd (upd (upd (upd (upd (upd ((fun _=>none)) 14 (some (.val (B false)))) 13 (some (.val (I j)))) 12 (some (.val (I (vars.map I).length)))) 11 (some (.val (.slice .none 1 (vars.map I))))) 7 (some (.val (.ptr ba 0)))) 3 (some (.val (.ptr bs 0)))) 2 (some (.val (bools cos))),(fun _=>none),n',v',D,S'⟩):EX (callL p) (.loop F92_l1) ⟨upd (upd (upd (upd (upd (upd ((fun _=>none)) 13 (some (.val (I i)))) 12 (some (.val (I (vars.map I).length)))) 11 (some (.val (.slice .none 1 (vars.map I))))) 7 (some (.val (.ptr ba 0)))) 3 (some (.val (.ptr bs 0)))) 2 (some (.val (bools cos))),(fun _=>none),n,v,D,S⟩ Q:=by
 refine eloop (eseq (ereg (qp rfl (qb ?_))))
 rintro (_ | _) h1
 ·refine qk (kc rfl (kc rfl (kc rfl (kc rfl (kc rfl (kc rfl (kc rfl kn))))))) kn (sqn (eseq (ecF rfl (eexit (sqx ?_)))))
  exact hX _ _ _ _ (by rw [List.drop_eq_nil_of_le (by simp at h1 ⊢;omega)];simpa [addsV,newP] using hE) hc0
 ·refine qk (kc rfl (kc rfl (kc rfl (kc rfl (kc rfl (kc rfl (kc rfl kn))))))) kn (sqn (eseq (ecT rfl (eskip (sqn (eseq (eblock (eseq (ereg (qp rfl ?_))))))))))
  have hlt:i < vars.length:=by simpa using h1
  obtain ⟨a,ha⟩:=get_of_lt hlt
  have hd:=drop_cons ha
  refine hia (y:=I a) rfl rfl (by omega) (by simp [ha]) rfl (qp rfl (qp rfl (qp rfl (qk (kc rfl (kc rfl (kc rfl (kc rfl (kc rfl (kc rfl (kc rfl (kc rfl kn)))))))) kn (sqn (eseq (ereg (qp rfl (qp rfl ?_)))))))))
  obtain ⟨c,hc⟩:=get_of_lt (l:=cos) (i:=i) (by omega)
  have hcd:(cos.drop i).headD false=c:=by rw [coAt_drop];unfold coAt;rw [hc];rfl
  refine hia (y:=B c) rfl rfl (by omega) (by simp [hc]) rfl (qp rfl (hcall rfl rfl rfl (cside_c _ c) ?_))
  rintro _ _ ⟨rfl,hq⟩
  obtain rfl:=hq.symm
  refine qp rfl (qk (kc rfl (kc rfl (kc rfl (kc rfl (kc rfl (kc rfl (kc rfl (kc rfl kn)))))))) kn (sqn (eseq (ereg (qp rfl ?_)))))
  refine qp (t:=.val (.ptr bs (0 + (sideOf c).toNat * 1))) (by cases c <;> rfl) ?_
  refine hldo rfl hE.hB (y:=.map (if c then i1 else i0)) (by cases c <;> rfl) ?_
  refine qp rfl (hlk (id:=if c then i1 else i0) (m:=setM (if c then A else X)) rfl rfl rfl (hE.hS.at c) ?_)
  rw [setM_get]
  refine qb ?_
  rintro (_ | _) h2
  ·refine qp rfl (qk (kc rfl (kc rfl (kc rfl (kc rfl (kc rfl (kc rfl (kc rfl (kc rfl (kc rfl kn))))))))) kn (sqn (ecT rfl (eseq (ereg (qp rfl ?_))))))
   refine qp (t:=.val (.ptr bs (0 + (sideOf c).toNat * 1))) (by cases c <;> rfl) ?_
   refine hldo rfl hE.hB (y:=.map (if c then i1 else i0)) (by cases c <;> rfl) ?_
   refine qp rfl (hmu (id:=if c then i1 else i0) (m:=setM (if c then A else X)) rfl rfl rfl rfl (hE.hS.at c) ?_)
   rw [show (AV.lit (.bool true)).er=B true from rfl,setM_add]
   refine qk (kc rfl (kc rfl (kc rfl (kc rfl (kc rfl (kc rfl (kc rfl (kc rfl kn)))))))) kn (sqn (ereg ?_))
   obtain ⟨o,hA,hcan⟩:=hE.hA
   have hne:ba ≠ (if c then i1 else i0):=by cases c;exact hE.a0;exact hE.a1
   refine hldo rfl (by rw [set_ne hne];exact hA) rfl ?_
   refine qp rfl (qp rfl (hbuild rfl rfl (lc rfl (lc rfl (ln rfl))) (hbsl rfl rfl (lc rfl (ln rfl)) (hapO (g0:=S0.gn) rfl rfl hcan (by simp) (by simp;omega) rfl ?_))))
   intro v' S2 hv1 hv2 e1 e2 e3 e4 e5
   refine hstT rfl rfl (by rw [e1,set_ne hne];exact hA) (by simp) hv1 rfl ?_
   intro v'' S3 f1 f2 f3 f4 f5 f6 f7
   refine qk (kc rfl (kc rfl (kc rfl (kc rfl (kc rfl (kc rfl kn)))))) kn (bqn (sqn (ereg (hadd rfl rfl (i64w (by omega)) (qp rfl (qk (kc rfl (kc rfl (kc rfl (kc rfl (kc rfl (kc rfl kn)))))) kn ?_))))))
   first
   | (have h2':(if c=true then A else X) a=true:=h2
      exact enter_l vars cos hl _ _ _ (i + 1) (by omega) hs (by split <;> simp <;> first | omega | (split <;> simp <;> omega)) (hE.old h2') hc0 (fun j S' n' v' h c2=>hX j S' n' v' (EN.fin hd hcd h) c2))
   | (have h2':(if c=true then A else X) a=false:=h2
      have hg:=hc0.gn
      have e3':S2.gn=S.gn:=e3
      have f1':S3.ob=upd (S.set (if c then i1 else i0) (.map (.int .i64) (setM (addV (if c then A else X) a)))).ob ba (some (.row [.slice (.gt S2.gn) 2 (ad.map encP ++ [.agg [I (sideOf c),I a]])])):=by rw [f1,e1];rfl
      have f2':S3.nx=S.nx:=f2.trans e2
      exact enter_l vars cos hl _ _ _ (i + 1) (by omega) hs (by split <;> simp <;> first | omega | (split <;> simp <;> omega)) (hE.more h2' f1' f2' (by omega) f4 (by omega)) (EN.chg (c:=c) hE hc0 f1' f2' (by omega) (fun g hg3=>(f5 g (by omega)).trans (e4 g hg3)) (f6.trans e5)) (fun j S' n' v' h c2=>hX j S' n' v' (EN.fin hd hcd h) c2))
  ·refine qp rfl (qk (kc rfl (kc rfl (kc rfl (kc rfl (kc rfl (kc rfl (kc rfl (kc rfl (kc rfl kn))))))))) kn (sqn (ecF rfl (eskip (bqn (sqn (ereg (hadd rfl rfl (i64w (by omega)) (qp rfl (qk (kc rfl (kc rfl (kc rfl (kc rfl (kc rfl (kc rfl kn)))))) kn ?_))))))))))
   first
   | (have h2':(if c=true then A else X) a=true:=h2
      exact enter_l vars cos hl _ _ _ (i + 1) (by omega) hs (by split <;> simp <;> first | omega | (split <;> simp <;> omega)) (hE.old h2') hc0 (fun j S' n' v' h c2=>hX j S' n' v' (EN.fin hd hcd h) c2))
   | (have h2':(if c=true then A else X) a=false:=h2
      have hg:=hc0.gn
      have e3':S2.gn=S.gn:=e3
      have f1':S3.ob=upd (S.set (if c then i1 else i0) (.map (.int .i64) (setM (addV (if c then A else X) a)))).ob ba (some (.row [.slice (.gt S2.gn) 2 (ad.map encP ++ [.agg [I (sideOf c),I a]])])):=by rw [f1,e1];rfl
      have f2':S3.nx=S.nx:=f2.trans e2
      exact enter_l vars cos hl _ _ _ (i + 1) (by omega) hs (by split <;> simp <;> first | omega | (split <;> simp <;> omega)) (hE.more h2' f1' f2' (by omega) f4 (by omega)) (EN.chg (c:=c) hE hc0 f1' f2' (by omega) (fun g hg3=>(f5 g (by omega)).trans (e4 g hg3)) (f6.trans e5)) (fun j S' n' v' h c2=>hX j S' n' v' (EN.fin hd hcd h) c2))
termination_by vars.length - i
decreasing_by all_goals omega
theorem en_init {i0 i1:Nat} {X A:Int → Bool} (s:Sg) (hS:PS i0 i1 X A s):EN s.gn s.nx (s.new (.row [.map i0,.map i1])).nx i0 i1 X A [] ((s.new (.row [.map i0,.map i1])).new (.row [.slice .full 2 []])):=by
 have e:(s.new (.row [.map i0,.map i1])).nx=s.nx + 1:=rfl
 have e2:((s.new (.row [.map i0,.map i1])).new (.row [.slice .full 2 []])).nx=s.nx + 2:=rfl
 have l0:=hS.l0
 have l1:=hS.l1
 have hl:∀ j,j < s.nx → ((s.new (.row [.map i0,.map i1])).new (.row [.slice .full 2 []])).ob j=s.ob j:=fun j hj=>by rw [new_lt (by omega),new_lt hj]
 refine ⟨?_,⟨.full,?_,.inl rfl⟩,⟨?_,?_,by omega,by omega,hS.ne⟩,by omega,by omega,by omega,by omega,by omega,by omega,by omega⟩
 ·rw [new_lt (by omega)];exact new_ob
 ·rw [new_ob];rfl
 ·rw [hl i0 l0];exact hS.h0
 ·rw [hl i1 l1];exact hS.h1
theorem enter_c (s:Sg) (i0 i1:Nat) (X A:Int → Bool) (vars:List Int) (cos:List Bool) (hl:vars.length ≤ cos.length) (hs:vars.length ≤ 2 ^ 40) (hS:PS i0 i1 X A s):HC p N92_ [.agg [.map i0,.map i1],ints vars,bools cos] s (fun r s'=>∃ bs ba,r=[.fn N145_ [] [.ptr ba 0,.ptr bs 0]] ∧ EN s.gn bs ba i0 i1 (addsV false X vars cos) (addsV true A vars cos) (newP X A vars cos) s' ∧ Chg (IXA i0 i1) s s' ∧ s.nx ≤ bs ∧ s.nx ≤ ba):=by
 refine hcf rfl f92_ rfl ?_
 simp only [chainOf]
 refine eseq (ereg (hboxo rfl (lc rfl (lc rfl (ln rfl))) (qp rfl (qk (kc rfl (kc rfl (kc rfl kn))) kn (sqn (eseq (ereg (hall (qk (kc rfl (kc rfl (kc rfl (kc rfl kn)))) kn (sqn (eseq (eseq (ereg (qp rfl (qp rfl (qp rfl (qk (kc rfl (kc rfl (kc rfl (kc rfl (kc rfl (kc rfl kn)))))) kn (sqn (eblock (enter_l vars cos hl X A [] 0 (by omega) hs (by simp) (en_init s hS) ((Chg.new (Chg.new (Chg.refl s))).mono fun i _ h=>h) ?_))))))))))))))))))))
 ·intro j S1 n1 v1 hE hc
  refine bqx (sqn (eseq (ereg (qp rfl (qp rfl (qk (kc rfl kn) kn (sqn (eret (fqr rfl ?_)))))))))
  exact ⟨_,_,rfl,hE,hc.mono (fun i hi h=>by rcases h with h | h;exact absurd h (by show i ≠ s.nx + 1;omega);exact h),Nat.le_refl _,Nat.le_succ _⟩
def delP (w:Bool) (X:Int → Bool) (l:List (Bool × Int)):Int → Bool:=fun n=>X n && !(l.any fun q=>decide (q=(w,n)))
theorem delP_cons (w:Bool) (X:Int → Bool) (q:Bool × Int) (l:List (Bool × Int)):delP w X (q :: l)=delP w (if q.1=w then delV X q.2 else X) l:=by
 obtain ⟨c,v⟩:=q
 funext n
 unfold delP delV
 by_cases h:c=w
 ·subst h
  by_cases hn:n=v
  ·subst hn;simp
  ·have:¬ v=n:=fun e=>hn e.symm
   simp [hn,this]
 ·simp [h]
theorem delP_nil (w:Bool) (X:Int → Bool):delP w X []=X:=by
 funext n
 simp [delP]
theorem addsV_or {w:Bool}:∀ (vars:List Int) (cos:List Bool) (X:Int → Bool) (n:Int),X n=true → addsV w X vars cos n=true
 | [],_,X,n,h=>by simpa [addsV] using h
 | v :: vs,cs,X,n,h=>by
   rw [addsV]
   apply addsV_or
   split
   ·simp [addV,h]
   ·exact h
theorem newP_any {w:Bool}:∀ (vars:List Int) (cos:List Bool) (X A:Int → Bool) (n:Int),((newP X A vars cos).any fun q=>decide (q=(w,n)))=(!(if w then A else X) n && addsV w (if w then A else X) vars cos n)
 | [],_,X,A,n=>by simp [newP,addsV]
 | v :: vs,cs,X,A,n=>by
   rw [newP_cons X A v vs cs _ rfl,addsV_cons w _ v vs cs _ rfl,List.any_append,newP_any vs cs.tail]
   generalize cs.headD false=c
   by_cases hc:c=w
   ·subst hc
    have e1:(if c=true then (if c=true then addV A v else A) else (if c=false then addV X v else X))=addV (if c=true then A else X) v:=by cases c <;> rfl
    rw [e1,if_pos rfl]
    by_cases hv:(if c=true then A else X) v=true
    ·rw [if_pos hv,addV_old hv];rfl
    ·rw [if_neg hv]
     have hv':(if c=true then A else X) v=false:=by simpa using hv
     by_cases hn:n=v
     ·subst hn
      have:=addsV_or (w:=c) vs cs.tail (addV (if c=true then A else X) n) n (by simp [addV])
      rw [hv',this]
      simp
     ·have h2:¬ v=n:=fun e=>hn e.symm
      simp [addV,hn,h2]
   ·have e1:(if w=true then (if c=true then addV A v else A) else (if c=false then addV X v else X))=(if w=true then A else X):=by cases c <;> cases w <;> simp_all
    rw [e1,if_neg hc]
    have h2:((if (if c=true then A else X) v=true then [] else [(c,v)]).any fun q=>decide (q=(w,n)))=false:=by
     by_cases hv:(if c=true then A else X) v=true
     ·rw [if_pos hv];rfl
     ·rw [if_neg hv]
      have:¬ ((c,v):Bool × Int)=(w,n):=fun e=>hc (by cases e;rfl)
      simp only [List.any_cons,List.any_nil,decide_eq_false this,Bool.or_false]
    rw [h2,Bool.false_or]
theorem delP_newP (w:Bool) (X A:Int → Bool) (vars:List Int) (cos:List Bool):delP w (addsV w (if w then A else X) vars cos) (newP X A vars cos)=if w then A else X:=by
 funext n
 unfold delP
 rw [newP_any]
 cases h:(if w=true then A else X) n with
 | true=>rw [addsV_or _ _ _ _ h];rfl
 | false=>cases addsV w (if w=true then A else X) vars cos n <;> rfl
theorem leave_l {bs i0 i1:Nat} {o:Own} (ad:List (Bool × Int)) (X A:Int → Bool) (i:Nat) (hi:i ≤ ad.length) (hs:ad.length ≤ 2 ^ 40) {n:Nat} {v:Nat → Bool} {D:List (Nat × List AV)} {S:Sg} {Q:Ex → Fr → Prop}
 (hB:S.ob bs=some (.row [.map i0,.map i1])) (hS:PS i0 i1 X A S) (b0:bs ≠ i0) (b1:bs ≠ i1)
 (hX:∀ j S',PS i0 i1 (delP false X (ad.drop i)) (delP true A (ad.drop i)) S' → Chg (IXA i0 i1) S S' → Q (.exit 0) ⟨upd (upd (upd (upd (upd ((fun _=>none)) 7 (some (.val (B false)))) 6 (some (.val (I j)))) 5 (some (.val (I (ad.map encP).length)))) 4 (some (.val (.slice o 2 (ad.map encP))))) 1 (some (.val (.ptr bs 0))),(fun _=>none),n,v,D,S'⟩):EX (callL p) (.loop F145_l1) ⟨upd (upd (upd (upd ((fun _=>none)) 6 (some (.val (I i)))) 5 (some (.val (I (ad.map encP).length)))) 4 (some (.val (.slice o 2 (ad.map encP))))) 1 (some (.val (.ptr bs 0))),(fun _=>none),n,v,D,S⟩ Q:=by
 refine eloop (eseq (ereg (qp rfl (qb ?_))))
 rintro (_ | _) h1
 ·refine qk (kc rfl (kc rfl (kc rfl (kc rfl (kc rfl kn))))) kn (sqn (eseq (ecF rfl (eexit (sqx ?_)))))
  exact hX _ _ (by rw [List.drop_eq_nil_of_le (by simp at h1 ⊢;omega),delP_nil,delP_nil];exact hS) (Chg.refl _)
 ·refine qk (kc rfl (kc rfl (kc rfl (kc rfl (kc rfl kn))))) kn (sqn (eseq (ecT rfl (eskip (sqn (eseq (eblock (eseq (ereg ?_)))))))))
  have hlt:i < ad.length:=by simpa using h1
  obtain ⟨a,ha⟩:=get_of_lt hlt
  have hd:=drop_cons ha
  refine hia (y:=encP a) rfl rfl (by omega) (by simp [ha]) rfl ?_
  obtain ⟨w,x⟩:=a
  refine hlda rfl rfl (lc rfl (lc rfl (ln rfl))) (hal (dc (dc (dc (dc (dc (dc (dc dn rfl) rfl) rfl) rfl) rfl) rfl) rfl) (hstl rfl rfl rfl rfl (Nat.le_of_ble_eq_true rfl) (lc rfl (lc rfl (ln rfl))) (qk (kc rfl (kc rfl (kc rfl (kc rfl (kc rfl kn))))) (kc rfl kn) (sqn (ereg (qp rfl (qp rfl ?_)))))))
  refine qp (t:=.val (.ptr bs (0 + (sideOf w).toNat * 1))) (by cases w <;> rfl) ?_
  refine hldo rfl hB (y:=.map (if w then i1 else i0)) (by cases w <;> rfl) ?_
  refine qp rfl (qp rfl (hdl (id:=if w then i1 else i0) (m:=setM (if w then A else X)) rfl rfl rfl (hS.at w) ?_))
  rw [setM_delV]
  refine qk (kc rfl (kc rfl (kc rfl (kc rfl kn)))) kn (bqn (sqn (ereg (hadd rfl rfl (i64w (by omega)) (qp rfl (qk (kc rfl (kc rfl (kc rfl (kc rfl kn)))) kn ?_))))))
  have hX':=hX
  rw [hd,delP_cons,delP_cons] at hX'
  have him:bs ≠ (if w then i1 else i0):=by cases w;exact b0;exact b1
  refine leave_l ad (if w=false then delV X x else X) (if w=true then delV A x else A) (i + 1) (by omega) hs (by rw [set_ne him];exact hB) ?_ b0 b1 (fun j S' h c=>hX' j S' h (Chg.trans ((Chg.refl S).set (fun _=>by cases w;exact .inl rfl;exact .inr rfl)) c))
  cases w with
  | true=>exact ⟨by rw [if_pos rfl,set_ne hS.ne];exact hS.h0,set_ob,hS.l0,hS.l1,hS.ne⟩
  | false=>exact ⟨set_ob,by rw [if_neg (by simp),set_ne (Ne.symm hS.ne)];exact hS.h1,hS.l0,hS.l1,hS.ne⟩
termination_by ad.length - i
decreasing_by all_goals omega
theorem leave_c (s:Sg) (bs ba i0 i1:Nat) (X A:Int → Bool) (o:Own) (ad:List (Bool × Int)) (hz:ad.length ≤ 2 ^ 40) (hB:s.ob bs=some (.row [.map i0,.map i1])) (hA:s.ob ba=some (.row [.slice o 2 (ad.map encP)])) (hS:PS i0 i1 X A s) (b0:bs ≠ i0) (b1:bs ≠ i1):HC p N145_ [.ptr ba 0,.ptr bs 0] s (fun r s'=>r=[] ∧ PS i0 i1 (delP false X ad) (delP true A ad) s' ∧ Chg (IXA i0 i1) s s'):=by
 refine hcf rfl f145_ rfl ?_
 simp only [chainOf]
 refine eseq (ereg (hldo rfl hA rfl ?_))
 refine qp rfl (qp rfl (qk (kc rfl (kc rfl (kc rfl (kc rfl kn)))) kn (sqn (eblock (leave_l ad X A 0 (by omega) hz hB hS b0 b1 ?_)))))
 ·intro j S1 hS1 hc
  refine bqx (fqn rfl ?_)
  exact ⟨rfl,hS1,hc⟩
end Go.Sim.Kd
