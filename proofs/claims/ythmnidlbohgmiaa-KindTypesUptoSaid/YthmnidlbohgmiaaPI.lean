/-
  A part of a proof: see the last text of this claim.
-/
import Derived.Test.YthmnidlbohgmiaaPH
import Derived.Test.YthmnidlbohgmiaaPF
set_option linter.unusedVariables false
set_option linter.unusedSimpArgs false
namespace Go.Sim.Kd
open Go Go.Sim
structure RT (o ix ia:Nat) (X A:Int → Option Int) (S:Sg):Prop where
 hO:S.ob o=some (.row [.map ix,.map ia])
 h0:S.ob ix=some (.map (.int .i64) (tyM X))
 h1:S.ob ia=some (.map (.int .i64) (tyM A))
 lo:o < S.nx
 l0:ix < S.nx
 l1:ia < S.nx
 ne:ix ≠ ia
 o0:o ≠ ix
 o1:o ≠ ia
theorem RT.set0 {o ix ia:Nat} {X A:Int → Option Int} {S:Sg} (h:RT o ix ia X A S) (Y:Int → Option Int):RT o ix ia Y A (S.set ix (.map (.int .i64) (tyM Y))) :=
 ⟨by rw [set_ne h.o0];exact h.hO,set_ob,by rw [set_ne (Ne.symm h.ne)];exact h.h1,h.lo,h.l0,h.l1,h.ne,h.o0,h.o1⟩
theorem RT.set1 {o ix ia:Nat} {X A:Int → Option Int} {S:Sg} (h:RT o ix ia X A S) (Y:Int → Option Int):RT o ix ia X Y (S.set ia (.map (.int .i64) (tyM Y))) :=
 ⟨by rw [set_ne h.o1];exact h.hO,by rw [set_ne h.ne];exact h.h0,set_ob,h.lo,h.l0,h.l1,h.ne,h.o0,h.o1⟩
abbrev encR (q:Old):AV:=.agg [B q.1,I q.2.1,I (q.2.2.getD 0),B q.2.2.isSome]
theorem rbind_c (s:Sg) (o ix ia:Nat) (X A:Int → Option Int) (co:Bool) (v t:Int) (hR:RT o ix ia X A s):HC p N60_ [.ptr o 0,B co,I v,I t] s (fun r s'=>r=[encR (co,v,(if co=true then A else X) v)] ∧ RT o ix ia (if co=false then bindT X v t else X) (if co=true then bindT A v t else A) s' ∧ Chg (IXA ix ia) s s'):=by
 refine hcf rfl f60_ rfl ?_
 simp only [chainOf]
 refine eseq (ereg (hal (dc (dc (dc (dc dn rfl) rfl) rfl) rfl) (qk (kc rfl (kc rfl (kc rfl (kc rfl (kc rfl kn))))) (kc rfl kn) (sqn (eseq (ereg (qp rfl (qp rfl (qp rfl (hldo rfl hR.hO rfl ?_))))))))))
 refine qp rfl (qk (kc rfl (kc rfl (kc rfl (kc rfl (kc rfl (kc rfl kn)))))) (kc rfl kn) (sqn (eseq (eseq (ereg (qp rfl (qb ?_)))))))
 rintro (_ | _) h1
 ·refine qk (kc rfl (kc rfl (kc rfl (kc rfl (kc rfl (kc rfl (kc rfl kn))))))) (kc rfl kn) (sqn (ecF rfl (eskip (sqn (eseq (ereg (qp rfl (qp rfl ?_))))))))
  first
  | refine hlk2 (m:=tyM X) rfl rfl rfl hR.h0 ?_
  | refine hlk2 (m:=tyM A) rfl rfl rfl hR.h1 ?_
  rw [tyM_get,tyM_some]
  refine qp rfl (qp rfl (qp rfl (qp rfl (qp rfl (qk (kc rfl (kc rfl (kc rfl (kc rfl (kc rfl (kc rfl (kc rfl kn))))))) (kc rfl kn) (sqn (eseq (ereg (qp rfl (qp rfl (qp rfl ?_)))))))))))
  first
  | refine hmu (m:=tyM X) rfl rfl rfl rfl hR.h0 ?_
  | refine hmu (m:=tyM A) rfl rfl rfl rfl hR.h1 ?_
  rw [show (AV.lit (.int .i64 t)).er=I t from rfl,tyM_set]
  refine qk (kc rfl (kc rfl (kc rfl (kc rfl (kc rfl kn))))) (kc rfl kn) (sqn (eseq (ereg (qp rfl (qp rfl (qp rfl (qp rfl (hbuild rfl rfl (lc rfl (lc rfl (lc rfl (lc rfl (ln rfl))))) (hstl rfl rfl rfl rfl (Nat.le_of_ble_eq_true rfl) (lc rfl (lc rfl (lc rfl (lc rfl (ln rfl))))) (qk (kc rfl kn) (kc rfl kn) (sqn (eret (fqr rfl ?_)))))))))))))
  subst h1
  first
  | exact ⟨rfl,by simpa using hR.set0 (bindT X v t),(Chg.refl s).set fun _=>.inl rfl⟩
  | exact ⟨rfl,by simpa using hR.set1 (bindT A v t),(Chg.refl s).set fun _=>.inr rfl⟩
 ·refine qk (kc rfl (kc rfl (kc rfl (kc rfl (kc rfl (kc rfl (kc rfl kn))))))) (kc rfl kn) (sqn (ecT rfl (ereg (qp rfl (qp rfl (qp rfl (hldo rfl hR.hO rfl ?_)))))))
  refine qp rfl (qk (kc rfl (kc rfl (kc rfl (kc rfl (kc rfl kn))))) (kc rfl kn) (sqn (eseq (ereg (qp rfl (qp rfl ?_))))))
  first
  | refine hlk2 (m:=tyM X) rfl rfl rfl hR.h0 ?_
  | refine hlk2 (m:=tyM A) rfl rfl rfl hR.h1 ?_
  rw [tyM_get,tyM_some]
  refine qp rfl (qp rfl (qp rfl (qp rfl (qp rfl (qk (kc rfl (kc rfl (kc rfl (kc rfl (kc rfl (kc rfl (kc rfl kn))))))) (kc rfl kn) (sqn (eseq (ereg (qp rfl (qp rfl (qp rfl ?_)))))))))))
  first
  | refine hmu (m:=tyM X) rfl rfl rfl rfl hR.h0 ?_
  | refine hmu (m:=tyM A) rfl rfl rfl rfl hR.h1 ?_
  rw [show (AV.lit (.int .i64 t)).er=I t from rfl,tyM_set]
  refine qk (kc rfl (kc rfl (kc rfl (kc rfl (kc rfl kn))))) (kc rfl kn) (sqn (eseq (ereg (qp rfl (qp rfl (qp rfl (qp rfl (hbuild rfl rfl (lc rfl (lc rfl (lc rfl (lc rfl (ln rfl))))) (hstl rfl rfl rfl rfl (Nat.le_of_ble_eq_true rfl) (lc rfl (lc rfl (lc rfl (lc rfl (ln rfl))))) (qk (kc rfl kn) (kc rfl kn) (sqn (eret (fqr rfl ?_)))))))))))))
  subst h1
  first
  | exact ⟨rfl,by simpa using hR.set0 (bindT X v t),(Chg.refl s).set fun _=>.inl rfl⟩
  | exact ⟨rfl,by simpa using hR.set1 (bindT A v t),(Chg.refl s).set fun _=>.inr rfl⟩
theorem rrest_c (s:Sg) (o ix ia:Nat) (X A:Int → Option Int) (co:Bool) (v:Int) (q:Option Int) (hR:RT o ix ia X A s):HC p N61_ [.ptr o 0,encR (co,v,q)] s (fun r s'=>r=[] ∧ RT o ix ia (if co=false then setT X v q else X) (if co=true then setT A v q else A) s' ∧ Chg (IXA ix ia) s s'):=by
 refine hcf rfl f61_ rfl ?_
 simp only [chainOf]
 refine eseq (ereg (hbox (dc (dc dn rfl) rfl) rfl (lc rfl (lc rfl (lc rfl (lc rfl (ln rfl))))) (qk (kc rfl (kc rfl kn)) (kc rfl kn) (sqn (eseq (ereg (qp rfl (qp rfl (qp rfl (hldo rfl hR.hO rfl ?_))))))))))
 refine qp rfl (qk (kc rfl (kc rfl (kc rfl kn))) (kc rfl kn) (sqn (eseq (eseq (ereg (qp rfl (qp rfl (qb ?_))))))))
 rintro (_ | _) h1
 ·refine qk (kc rfl (kc rfl (kc rfl (kc rfl kn)))) (kc rfl kn) (sqn (ecF rfl (eskip (sqn (eseq (ereg (qp rfl (qp rfl (qb ?_)))))))))
  rintro (_ | _) h2
  ·refine qk (kc rfl (kc rfl (kc rfl kn))) (kc rfl kn) (sqn (ecF rfl (ereg (qp rfl (qp rfl (qp rfl ?_))))))
   obtain rfl:q=none:=(by have g:q.isSome=false:=(by assumption);cases q <;> first | rfl | cases g)
   first
   | refine hdl (m:=tyM X) rfl rfl rfl hR.h0 ?_
   | refine hdl (m:=tyM A) rfl rfl rfl hR.h1 ?_
   rw [tyM_del]
   refine qk kn kn (fqn rfl ?_)
   subst h1
   first
   | exact ⟨rfl,by simpa using hR.set0 (setT X v _),(Chg.refl s).set fun _=>.inl rfl⟩
   | exact ⟨rfl,by simpa using hR.set1 (setT A v _),(Chg.refl s).set fun _=>.inr rfl⟩
  ·refine qk (kc rfl (kc rfl (kc rfl kn))) (kc rfl kn) (sqn (ecT rfl (ereg (qp rfl (qp rfl (qp rfl (qp rfl (qp rfl ?_))))))))
   obtain ⟨t,rfl⟩:∃ t,q=some t:=Option.isSome_iff_exists.1 (by assumption)
   first
   | refine hmu (m:=tyM X) rfl rfl rfl rfl hR.h0 ?_
   | refine hmu (m:=tyM A) rfl rfl rfl rfl hR.h1 ?_
   rw [show (AV.lit (.int .i64 ((some t).getD 0))).er=I t from rfl,tyM_set]
   refine qk kn kn (fqn rfl ?_)
   subst h1
   first
   | exact ⟨rfl,by simpa using hR.set0 (setT X v _),(Chg.refl s).set fun _=>.inl rfl⟩
   | exact ⟨rfl,by simpa using hR.set1 (setT A v _),(Chg.refl s).set fun _=>.inr rfl⟩
 ·refine qk (kc rfl (kc rfl (kc rfl (kc rfl kn)))) (kc rfl kn) (sqn (ecT rfl (ereg (qp rfl (qp rfl (qp rfl (hldo rfl hR.hO rfl ?_)))))))
  refine qp rfl (qk (kc rfl (kc rfl kn)) (kc rfl kn) (sqn (eseq (ereg (qp rfl (qp rfl (qb ?_)))))))
  rintro (_ | _) h3
  ·refine qk (kc rfl (kc rfl (kc rfl kn))) (kc rfl kn) (sqn (ecF rfl (ereg (qp rfl (qp rfl (qp rfl ?_))))))
   obtain rfl:q=none:=(by have g:q.isSome=false:=(by assumption);cases q <;> first | rfl | cases g)
   first
   | refine hdl (m:=tyM X) rfl rfl rfl hR.h0 ?_
   | refine hdl (m:=tyM A) rfl rfl rfl hR.h1 ?_
   rw [tyM_del]
   refine qk kn kn (fqn rfl ?_)
   subst h1
   first
   | exact ⟨rfl,by simpa using hR.set0 (setT X v _),(Chg.refl s).set fun _=>.inl rfl⟩
   | exact ⟨rfl,by simpa using hR.set1 (setT A v _),(Chg.refl s).set fun _=>.inr rfl⟩
  ·refine qk (kc rfl (kc rfl (kc rfl kn))) (kc rfl kn) (sqn (ecT rfl (ereg (qp rfl (qp rfl (qp rfl (qp rfl (qp rfl ?_))))))))
   obtain ⟨t,rfl⟩:∃ t,q=some t:=Option.isSome_iff_exists.1 (by assumption)
   first
   | refine hmu (m:=tyM X) rfl rfl rfl rfl hR.h0 ?_
   | refine hmu (m:=tyM A) rfl rfl rfl rfl hR.h1 ?_
   rw [show (AV.lit (.int .i64 ((some t).getD 0))).er=I t from rfl,tyM_set]
   refine qk kn kn (fqn rfl ?_)
   subst h1
   first
   | exact ⟨rfl,by simpa using hR.set0 (setT X v _),(Chg.refl s).set fun _=>.inl rfl⟩
   | exact ⟨rfl,by simpa using hR.set1 (setT A v _),(Chg.refl s).set fun _=>.inr rfl⟩
def RPost (o ix ia:Nat) (X A:Int → Option Int) (s:Sg) (q:Option Int) (r:List AV) (s':Sg):Prop :=
 ∃ t b,r=[I t,B b] ∧ (if b=true then some t else none)=q ∧ RT o ix ia X A s' ∧ Chg (IXA ix ia) s s'
def RC (c:Core) (a:Node):Prop:=∀ (s:Sg) (o ix ia:Nat) (X A:Int → Option Int),RT o ix ia X A s → vN c.decls c.funs a (dom X) (dom A)=true →
 HC p N19_ [.ptr o 0,.agg (Core.cs c),.agg a.cs] s (RPost o ix ia X A s (tN c.decls c.funs a X A))
theorem cmd_zero {ds:List Decl} {fs:List CFun} {a:Node} {X A:Int → Option Int} {t:Int} (h:sortOf a.op=2) (e:tN ds fs a X A=some t):t=0:=by
 have hr:9 ≤ a.op:=by
  unfold sortOf at h
  split at h
  ·omega
  ·split at h
   ·omega
   ·split at h <;> omega
 rw [tN_eq,if_neg (by omega),if_neg (by omega),if_neg (by omega),if_neg (by omega),if_neg (by omega),if_neg (by omega)] at e
 split at e
 ·exact (if_some e).2.symm
 ·split at e
  ·exact (if_some e).2.symm
  ·exact (if_some e).2.symm
theorem good_zero {ds:List Decl} {fs:List CFun} {a:Node} {X A:Int → Option Int} (h:sortOf a.op=2):(tN ds fs a X A).isSome=decide (tN ds fs a X A=some 0):=by
 cases e:tN ds fs a X A with
 | none=>rfl
 | some t=>rw [cmd_zero h e];rfl
theorem rhas_c (s:Sg) (c:Core) (o ix ia:Nat) (X A:Int → Option Int) (a:Node) (t:Int) (H:RC c a) (hR:RT o ix ia X A s) (hv:vN c.decls c.funs a (dom X) (dom A)=true):HC p N63_ [.ptr o 0,.agg (Core.cs c),.agg a.cs,I t] s (fun r s'=>r=[B (decide (tN c.decls c.funs a X A=some t))] ∧ RT o ix ia X A s' ∧ Chg (IXA ix ia) s s'):=by
 refine hcf rfl f63_ rfl ?_
 simp only [chainOf]
 refine eseq (ereg (hbox (dc (dc (dc (dc dn rfl) rfl) rfl) rfl) rfl (lc rfl (lc rfl (ln rfl))) (hbox (dc (dc (dc (dc (dc dn rfl) rfl) rfl) rfl) rfl) rfl (lc rfl (lc rfl (lc rfl (lc rfl (lc rfl (ln rfl)))))) (qp rfl (qk (kc rfl (kc rfl (kc rfl (kc rfl kn)))) (kc rfl (kc rfl kn)) (sqn (eseq (ereg (qp rfl (hlda rfl rfl (lc rfl (lc rfl (ln rfl))) (hlda rfl rfl (lc rfl (lc rfl (lc rfl (lc rfl (lc rfl (ln rfl)))))) (hcall rfl rfl rfl (H _ o ix ia X A hR hv) ?_))))))))))))
 rintro _ S1 ⟨u,b,rfl,ho,hR1,hc1⟩
 refine qp rfl (qp rfl (qp rfl (qb ?_)))
 rintro (_ | _) h1
 ·refine qp rfl (qp rfl (qk (kc rfl (kc rfl (kc rfl kn))) kn (sqn (eseq (ereg (qp rfl (qp rfl (qs rfl rfl (by decide) (qs rfl rfl (by decide) (qs rfl rfl (by decide) (qp rfl (qp rfl (qk (kc rfl kn) kn (sqn (eret (fqr rfl ?_))))))))))))))))
  refine ⟨?_,hR1,hc1⟩
  have e:decide (tN c.decls c.funs a X A=some t)=(b && decide (u=t)):=by rw [← ho];cases b <;> simp
  rw [e]
  first
  | (have g:b=true:=by assumption
     rw [g];rfl)
  | (have g:b=false:=by assumption
     rw [g];rfl)
 ·refine qp rfl (qp rfl (qk (kc rfl (kc rfl (kc rfl kn))) kn (sqn (eseq (ereg (qp rfl (qp rfl (qg rfl (qp rfl (qg rfl (qp rfl (qg rfl (qp rfl (qp rfl (qp rfl (qk (kc rfl kn) kn (sqn (eret (fqr rfl ?_)))))))))))))))))))
  refine ⟨?_,hR1,hc1⟩
  have e:decide (tN c.decls c.funs a X A=some t)=(b && decide (u=t)):=by rw [← ho];cases b <;> simp
  rw [e]
  first
  | (have g:b=true:=by assumption
     rw [g];rfl)
  | (have g:b=false:=by assumption
     rw [g];rfl)
theorem rgood_c (s:Sg) (c:Core) (o ix ia:Nat) (X A:Int → Option Int) (a:Node) (H:RC c a) (hR:RT o ix ia X A s) (hv:vN c.decls c.funs a (dom X) (dom A)=true):HC p N52_ [.ptr o 0,.agg (Core.cs c),.agg a.cs] s (fun r s'=>r=[B (tN c.decls c.funs a X A).isSome] ∧ RT o ix ia X A s' ∧ Chg (IXA ix ia) s s'):=by
 refine hcf rfl f52_ rfl ?_
 simp only [chainOf]
 refine eseq (ereg (hbox (dc (dc (dc dn rfl) rfl) rfl) rfl (lc rfl (lc rfl (ln rfl))) (hbox (dc (dc (dc (dc dn rfl) rfl) rfl) rfl) rfl (lc rfl (lc rfl (lc rfl (lc rfl (lc rfl (ln rfl)))))) (qp rfl (qk (kc rfl (kc rfl (kc rfl kn))) (kc rfl (kc rfl kn)) (sqn (eseq (ereg (qp rfl (hlda rfl rfl (lc rfl (lc rfl (ln rfl))) (hlda rfl rfl (lc rfl (lc rfl (lc rfl (lc rfl (lc rfl (ln rfl)))))) (hcall rfl rfl rfl (H _ o ix ia X A hR hv) ?_))))))))))))
 rintro _ S1 ⟨u,b,rfl,ho,hR1,hc1⟩
 refine qp rfl (qp rfl (qp rfl (qp rfl (qp rfl (qk (kc rfl kn) kn (sqn (eseq (ereg (qp rfl (qp rfl (qk (kc rfl kn) kn (sqn (eret (fqr rfl ?_))))))))))))))
 refine ⟨?_,hR1,hc1⟩
 rw [← ho]
 cases b <;> rfl
theorem rargs_l {o ix ia:Nat} (c:Core) (nd:Node) (l:List Arg) (X A:Int → Option Int) (hlen:nd.args.length=l.length) (H:∀ b ∈ nd.args,RC c b) (hv:∀ b ∈ nd.args,vN c.decls c.funs b (dom X) (dom A)=true) (i:Nat) (hi:i ≤ l.length) (hs:l.length ≤ 2 ^ 40) {n:Nat} {v:Nat → Bool} {D:List (Nat × List AV)} {S:Sg} {Q:Ex → Fr → Prop}
 (hR:RT o ix ia X A S) (hX:∀ j S',tNs c.decls c.funs (nd.args.drop i) ((l.drop i).map Arg.ty) X A=true → RT o ix ia X A S' → Chg (IXA ix ia) S S' → Q (.exit 0) ⟨upd (upd (upd (upd (upd (upd (upd ((fun _=>none)) 14 (some (.val (B false)))) 13 (some (.val (I j)))) 12 (some (.val (I (l.map Arg.enc).length)))) 11 (some (.val (.slice .none 2 (l.map Arg.enc))))) 6 (some (.loc 6 0))) 5 (some (.loc 5 0))) 0 (some (.val (.ptr o 0))),upd (upd ((fun _=>none)) 6 (some (nd.cs))) 5 (some (Core.cs c)),n,v,D,S'⟩)
 (hF:∀ S',tNs c.decls c.funs (nd.args.drop i) ((l.drop i).map Arg.ty) X A=false → RT o ix ia X A S' → Chg (IXA ix ia) S S' → Q .ret ⟨upd ((fun _=>none)) 8 (some (.val (B false))),(fun _=>none),n,v,D,S'⟩):EX (callL p) (.loop F59_l1) ⟨upd (upd (upd (upd (upd (upd ((fun _=>none)) 13 (some (.val (I i)))) 12 (some (.val (I (l.map Arg.enc).length)))) 11 (some (.val (.slice .none 2 (l.map Arg.enc))))) 6 (some (.loc 6 0))) 5 (some (.loc 5 0))) 0 (some (.val (.ptr o 0))),upd (upd ((fun _=>none)) 6 (some (nd.cs))) 5 (some (Core.cs c)),n,v,D,S⟩ Q:=by
 refine eloop (eseq (ereg (qp rfl (qb ?_))))
 rintro (_ | _) h1
 ·refine qk (kc rfl (kc rfl (kc rfl (kc rfl (kc rfl (kc rfl (kc rfl kn))))))) (kc rfl (kc rfl kn)) (sqn (eseq (ecF rfl (eexit (sqx ?_)))))
  exact hX _ _ (by rw [List.drop_eq_nil_of_le (as:=nd.args) (by simp at h1 ⊢;omega),tNs]) hR (Chg.refl _)
 ·refine qk (kc rfl (kc rfl (kc rfl (kc rfl (kc rfl (kc rfl (kc rfl kn))))))) (kc rfl (kc rfl kn)) (sqn (eseq (ecT rfl (eskip (sqn (eseq (eblock (eseq (ereg (qp rfl ?_))))))))))
  have hlt:i < l.length:=by simpa using h1
  obtain ⟨a,ha⟩:=get_of_lt hlt
  have hd:=drop_cons ha
  refine hia (y:=Arg.enc a) rfl rfl (by omega) (by simp [ha]) rfl (hlda rfl rfl (lc rfl (lc rfl (ln rfl))) (hal (dc (dc (dc (dc (dc (dc (dc (dc (dc (dc dn rfl) rfl) rfl) rfl) rfl) rfl) rfl) rfl) rfl) rfl) (qp rfl (hstl rfl rfl rfl rfl (Nat.le_of_ble_eq_true rfl) (lc rfl (lc rfl (ln rfl))) (qk (kc rfl (kc rfl (kc rfl (kc rfl (kc rfl (kc rfl (kc rfl (kc rfl kn)))))))) (kc rfl (kc rfl (kc rfl kn))) (sqn (eseq (ereg (qp rfl (hlda rfl rfl (lc rfl (lc rfl (ln rfl))) (qp rfl (qp rfl (qp rfl ?_)))))))))))))
  obtain ⟨x,hx⟩:=get_of_lt (l:=nd.args) (i:=i) (by omega)
  have hx2:=drop_cons hx
  refine hia (y:=.agg x.cs) rfl rfl (by omega) (by rw [List.getElem?_map,Int.toNat_natCast,hx];simp [Node.enc_eq]) rfl ?_
  refine hlda rfl rfl (lc rfl (lc rfl (lc rfl (lc rfl (lc rfl (ln rfl)))))) (qp rfl (qp rfl (hcall rfl rfl rfl (rhas_c _ c o ix ia X A x a.ty (H x (List.mem_of_getElem? hx)) hR (hv x (List.mem_of_getElem? hx))) ?_)))
  rintro _ S1 ⟨rfl,hR1,hc1⟩
  refine qb ?_
  rintro (_ | _) h2
  ·refine qp rfl (qk (kc rfl (kc rfl (kc rfl (kc rfl (kc rfl (kc rfl (kc rfl kn))))))) (kc rfl (kc rfl kn)) (sqn (ecT rfl (eseq (ereg (qp rfl (qk (kc rfl kn) kn (sqn (eret (bqr (sqr ?_)))))))))))
   have g:decide (tN c.decls c.funs x X A=some a.ty)=false:=by assumption
   exact hF _ (by rw [hd,hx2,List.map_cons,tNs,g,Bool.false_and]) hR1 hc1
  ·refine qp rfl (qk (kc rfl (kc rfl (kc rfl (kc rfl (kc rfl (kc rfl (kc rfl kn))))))) (kc rfl (kc rfl kn)) (sqn (ecF rfl (eskip (bqn (sqn (ereg (hadd rfl rfl (i64w (by omega)) (qp rfl (qk (kc rfl (kc rfl (kc rfl (kc rfl (kc rfl (kc rfl kn)))))) (kc rfl (kc rfl kn)) ?_))))))))))
   have g:decide (tN c.decls c.funs x X A=some a.ty)=true:=by assumption
   have e:tNs c.decls c.funs (nd.args.drop i) ((l.drop i).map Arg.ty) X A=tNs c.decls c.funs (nd.args.drop (i + 1)) ((l.drop (i + 1)).map Arg.ty) X A:=by
    rw [hd,hx2,List.map_cons,tNs,g,Bool.true_and]
   exact rargs_l c nd l X A hlen H hv (i + 1) (by omega) hs hR1 (fun j S' h k2 c2=>hX j S' (e.trans h) k2 (hc1.trans c2)) (fun S' h k2 c2=>hF S' (e.trans h) k2 (hc1.trans c2))
termination_by l.length - i
decreasing_by all_goals omega
theorem rargs_c (s:Sg) (c:Core) (o ix ia:Nat) (X A:Int → Option Int) (nd:Node) (l:List Arg) (hz:l.length ≤ 2 ^ 40) (hlen:nd.args.length=l.length) (H:∀ b ∈ nd.args,RC c b) (hR:RT o ix ia X A s) (hv:∀ b ∈ nd.args,vN c.decls c.funs b (dom X) (dom A)=true):HC p N59_ [.ptr o 0,.agg (Core.cs c),.agg nd.cs,encArgs l] s (fun r s'=>r=[B (tNs c.decls c.funs nd.args (l.map Arg.ty) X A)] ∧ RT o ix ia X A s' ∧ Chg (IXA ix ia) s s'):=by
 refine hcf rfl f59_ rfl ?_
 simp only [chainOf]
 refine eseq (ereg (hbox (dc (dc (dc (dc dn rfl) rfl) rfl) rfl) rfl (lc rfl (lc rfl (ln rfl))) (hbox (dc (dc (dc (dc (dc dn rfl) rfl) rfl) rfl) rfl) rfl (lc rfl (lc rfl (lc rfl (lc rfl (lc rfl (ln rfl)))))) (qp rfl (qk (kc rfl (kc rfl (kc rfl (kc rfl kn)))) (kc rfl (kc rfl kn)) (sqn (eseq (eseq (ereg (qp rfl (qp rfl (qp rfl (qk (kc rfl (kc rfl (kc rfl (kc rfl (kc rfl (kc rfl kn)))))) (kc rfl (kc rfl kn)) (sqn (eblock ?_)))))))))))))))
 refine rargs_l c nd l X A hlen H hv 0 (by omega) hz hR ?_ ?_
 ·intro j S1 hj hR1 hc1
  refine bqx (sqn (eseq (ereg (qp rfl (qk (kc rfl kn) kn (sqn (eret (fqr rfl ?_))))))))
  rw [List.drop_zero,List.drop_zero] at hj
  exact ⟨by rw [hj];rfl,hR1,hc1⟩
 ·intro S1 hj hR1 hc1
  refine bqr (sqr (fqr rfl ?_))
  rw [List.drop_zero,List.drop_zero] at hj
  exact ⟨by rw [hj];rfl,hR1,hc1⟩
theorem take_mapR {ad:List Old} {q:Old}:ad.map encR ++ [encR q]=(ad ++ [q]).map encR:=by simp
theorem rbody_l1 {o ix ia:Nat} (c:Core) (b:Br) (l:List Arg) (hlen:b.vars.length=l.length) (hlv2:l.length ≤ 2 ^ 40) (X A:Int → Option Int) (ad:List Old) (ow:Own) (i:Nat) (hi:i ≤ l.length) (hs:l.length ≤ 2 ^ 40) {n:Nat} {v:Nat → Bool} {D:List (Nat × List AV)} {S:Sg} {Q:Ex → Fr → Prop}
 (hlv:Can ow v) (had:ad.length ≤ i) (hR:RT o ix ia X A S) (hX:∀ j S' n' v' ow',RT o ix ia (bindsT false X (b.vars.drop i) (l.drop i)) (bindsT true A (b.vars.drop i) (l.drop i)) S' → Chg (IXA ix ia) S S' → Q (.exit 0) ⟨upd (upd (upd (upd (upd (upd (upd (upd ((fun _=>none)) 17 (some (.val (B false)))) 16 (some (.val (I j)))) 15 (some (.val (I (l.map Arg.enc).length)))) 14 (some (.val (.slice .none 2 (l.map Arg.enc))))) 9 (some (.val (.slice ow' 4 ((ad ++ olds X A (b.vars.drop i) (l.drop i)).map encR))))) 6 (some (.loc 6 0))) 5 (some (.loc 5 0))) 0 (some (.val (.ptr o 0))),upd (upd ((fun _=>none)) 6 (some (ints b.vars :: bools b.co :: b.body.cs))) 5 (some (Core.cs c)),n',v',D,S'⟩):EX (callL p) (.loop F62_l1) ⟨upd (upd (upd (upd (upd (upd (upd ((fun _=>none)) 16 (some (.val (I i)))) 15 (some (.val (I (l.map Arg.enc).length)))) 14 (some (.val (.slice .none 2 (l.map Arg.enc))))) 9 (some (.val (.slice ow 4 (ad.map encR))))) 6 (some (.loc 6 0))) 5 (some (.loc 5 0))) 0 (some (.val (.ptr o 0))),upd (upd ((fun _=>none)) 6 (some (ints b.vars :: bools b.co :: b.body.cs))) 5 (some (Core.cs c)),n,v,D,S⟩ Q:=by
 refine eloop (eseq (ereg (qp rfl (qb ?_))))
 rintro (_ | _) h1
 ·refine qk (kc rfl (kc rfl (kc rfl (kc rfl (kc rfl (kc rfl (kc rfl (kc rfl kn)))))))) (kc rfl (kc rfl kn)) (sqn (eseq (ecF rfl (eexit (sqx ?_)))))
  have e1:l.drop i=[]:=List.drop_eq_nil_of_le (by simp at h1 ⊢;omega)
  have e2:b.vars.drop i=[]:=List.drop_eq_nil_of_le (by simp at h1 ⊢;omega)
  rw [e1,e2] at hX
  have q:=hX i S n v ow (by simpa [bindsT] using hR) (Chg.refl _)
  simp only [olds,List.append_nil] at q
  exact q
 ·refine qk (kc rfl (kc rfl (kc rfl (kc rfl (kc rfl (kc rfl (kc rfl (kc rfl kn)))))))) (kc rfl (kc rfl kn)) (sqn (eseq (ecT rfl (eskip (sqn (eseq (eblock (eseq (ereg (qp rfl ?_))))))))))
  have hlt:i < l.length:=by simpa using h1
  obtain ⟨a,ha⟩:=get_of_lt hlt
  have hd:=drop_cons ha
  refine hia (y:=Arg.enc a) rfl rfl (by omega) (by simp [ha]) rfl (hlda rfl rfl (lc rfl (lc rfl (ln rfl))) (hal (dc (dc (dc (dc (dc (dc (dc (dc (dc (dc (dc dn rfl) rfl) rfl) rfl) rfl) rfl) rfl) rfl) rfl) rfl) rfl) (qp rfl (hstl rfl rfl rfl rfl (Nat.le_of_ble_eq_true rfl) (lc rfl (lc rfl (ln rfl))) (qk (kc rfl (kc rfl (kc rfl (kc rfl (kc rfl (kc rfl (kc rfl (kc rfl (kc rfl kn))))))))) (kc rfl (kc rfl (kc rfl kn))) (sqn (ereg (qp rfl (qp rfl (qp rfl (qp rfl (qp rfl (qp rfl (qp rfl ?_))))))))))))))
  obtain ⟨x,hx⟩:=get_of_lt (l:=b.vars) (i:=i) (by omega)
  have hx2:=drop_cons hx
  refine hia (y:=I x) rfl rfl (by omega) (by simp [hx]) rfl (qp rfl (qp rfl (qp rfl (hcall rfl rfl rfl (rbind_c _ o ix ia X A a.co x a.ty hR) ?_))))
  rintro _ S1 ⟨rfl,hR1,hc1⟩
  refine hbsl rfl rfl (lc rfl (ln rfl)) (hapC rfl rfl hlv (by simp) (by simp;omega) take_mapR ?_)
  intro v' hv1 hv2
  refine qp rfl (qk (kc rfl (kc rfl (kc rfl (kc rfl (kc rfl (kc rfl (kc rfl kn))))))) (kc rfl (kc rfl kn)) (bqn (sqn (ereg (hadd rfl rfl (i64w (by omega)) (qp rfl (qk (kc rfl (kc rfl (kc rfl (kc rfl (kc rfl (kc rfl (kc rfl kn))))))) (kc rfl (kc rfl kn)) ?_)))))))
  refine rbody_l1 c b l hlen hlv2 _ _ _ (.tip n) (i + 1) (by omega) hs hv1 (by simp;omega) hR1 (fun j S' n' v' ow' h c2=>?_)
  have:=hX j S' n' v' ow' (by rw [hd,hx2];simp only [bindsT];exact h) (hc1.trans c2)
  rw [hd,hx2,olds,show ad ++ (a.co,x,(if a.co=true then A else X) x) :: olds (if a.co=false then bindT X x a.ty else X) (if a.co=true then bindT A x a.ty else A) (b.vars.drop (i + 1)) (l.drop (i + 1))=ad ++ [(a.co,x,(if a.co=true then A else X) x)] ++ olds (if a.co=false then bindT X x a.ty else X) (if a.co=true then bindT A x a.ty else A) (b.vars.drop (i + 1)) (l.drop (i + 1)) from by simp] at this
  exact this
termination_by l.length - i
decreasing_by all_goals omega
theorem rbody_l2 {o ix ia:Nat} {ow:Own} {x12:AV} (ad:List Old) (X A:Int → Option Int) (m:Nat) (hm:m ≤ ad.length) (hz:ad.length ≤ 2 ^ 40) {n:Nat} {v:Nat → Bool} {D:List (Nat × List AV)} {S:Sg} {Q:Ex → Fr → Prop}
 (hR:RT o ix ia X A S) (hX:∀ S',RT o ix ia (undo false X (ad.take m)) (undo true A (ad.take m)) S' → Chg (IXA ix ia) S S' → Q (.exit 2) ⟨upd (upd (upd (upd (upd ((fun _=>none)) 45 (some (.val (B false)))) 13 (some (.val (I (-1))))) 12 (some (.val x12))) 9 (some (.val (.slice ow 4 (ad.map encR))))) 0 (some (.val (.ptr o 0))),(fun _=>none),n,v,D,S'⟩):EX (callL p) (.loop F62_l2) ⟨upd (upd (upd (upd ((fun _=>none)) 13 (some (.val (I ((m:Int) - 1))))) 12 (some (.val x12))) 9 (some (.val (.slice ow 4 (ad.map encR))))) 0 (some (.val (.ptr o 0))),(fun _=>none),n,v,D,S⟩ Q:=by
 refine eloop (eseq (eseq (ereg (qp rfl (qp rfl (qb ?_))))))
 rintro (_ | _) h1
 ·refine qk (kc rfl (kc rfl (kc rfl (kc rfl (kc rfl kn))))) kn (sqn (ecF rfl (eexit (sqx ?_))))
  have hm0:m=0:=by simp at h1;omega
  subst hm0
  exact hX S hR (Chg.refl _)
 ·refine qk (kc rfl (kc rfl (kc rfl (kc rfl (kc rfl kn))))) kn (sqn (ecT rfl (eskip (sqn (eseq (eblock (ereg (qp rfl (qp rfl (qp rfl ?_))))))))))
  obtain ⟨m',rfl⟩:∃ m',m=m' + 1:=⟨m - 1,by simp at h1;omega⟩
  obtain ⟨⟨w,x,q⟩,ha⟩:=get_of_lt (l:=ad) (i:=m') (by omega)
  refine hia (y:=encR (w,x,q)) rfl rfl (by omega) (by rw [List.getElem?_map,show ((m' + 1:Nat):Int) - 1=(m':Int) from by omega,Int.toNat_natCast,ha];rfl) rfl ?_
  refine hlda rfl rfl (lc rfl (lc rfl (lc rfl (lc rfl (ln rfl))))) (hcall rfl rfl rfl (rrest_c _ o ix ia X A w x q hR) ?_)
  rintro _ S1 ⟨rfl,hR1,hc1⟩
  refine qk (kc rfl (kc rfl (kc rfl (kc rfl kn)))) kn (bqn (sqn (ereg (qp rfl (hsub (r:=(m':Int) - 1) rfl rfl (by rw [i64w (by omega)];omega) (qp rfl (qk (kc rfl (kc rfl (kc rfl (kc rfl kn)))) kn ?_)))))))
  have et:ad.take (m' + 1)=ad.take m' ++ [(w,x,q)]:=by simp [List.take_add_one,ha]
  have hu:∀ (w':Bool) (Y:Int → Option Int),undo w' Y (ad.take (m' + 1))=undo w' (if w=w' then setT Y x q else Y) (ad.take m'):=fun w' Y=>by rw [et];simp [undo]
  rw [hu,hu] at hX
  exact rbody_l2 ad _ _ m' (by omega) hz hR1 (fun S' h c2=>hX S' h (hc1.trans c2))
termination_by m
decreasing_by all_goals omega
theorem rbody_c (s:Sg) (c:Core) (o ix ia:Nat) (X A:Int → Option Int) (b:Br) (l:List Arg) (hz:l.length ≤ 2 ^ 40) (hlen:b.vars.length=l.length) (H:RC c b.body) (hR:RT o ix ia X A s) (hv:vN c.decls c.funs b.body (dom (bindsT false X b.vars l)) (dom (bindsT true A b.vars l))=true):HC p N62_ [.ptr o 0,.agg (Core.cs c),.agg (ints b.vars :: bools b.co :: b.body.cs),encArgs l] s (fun r s'=>r=[B (tN c.decls c.funs b.body (bindsT false X b.vars l) (bindsT true A b.vars l)).isSome] ∧ RT o ix ia X A s' ∧ Chg (IXA ix ia) s s'):=by
 refine hcf rfl f62_ rfl ?_
 simp only [chainOf]
 refine eseq (ereg (hbox (dc (dc (dc (dc dn rfl) rfl) rfl) rfl) rfl (lc rfl (lc rfl (ln rfl))) (hbox (dc (dc (dc (dc (dc dn rfl) rfl) rfl) rfl) rfl) rfl (lc rfl (lc rfl (lc rfl (lc rfl (lc rfl (lc rfl (lc rfl (ln rfl)))))))) (qp rfl (qk (kc rfl (kc rfl (kc rfl (kc rfl kn)))) (kc rfl (kc rfl kn)) (sqn (eseq (ereg (qp rfl (qk (kc rfl (kc rfl (kc rfl (kc rfl (kc rfl kn))))) (kc rfl (kc rfl kn)) (sqn (eseq (eseq (ereg (qp rfl (qp rfl (qp rfl (qk (kc rfl (kc rfl (kc rfl (kc rfl (kc rfl (kc rfl (kc rfl kn))))))) (kc rfl (kc rfl kn)) (sqn (eblock (rbody_l1 c b l hlen hz X A [] .full 0 (by omega) hz trivial (by simp) hR ?_)))))))))))))))))))))
 ·intro j S1 n1 v1 ow1 hR1 hc1
  rw [List.drop_zero,List.drop_zero] at hR1
  rw [List.drop_zero,List.drop_zero,List.nil_append]
  have hol:=olds_len b.vars l X A
  refine bqx (sqn (eseq (ereg (qp rfl (hlda rfl rfl (lc rfl (lc rfl (ln rfl))) (qp rfl (hlda rfl rfl (lc rfl (lc rfl (lc rfl (lc rfl (lc rfl (ln rfl)))))) (hcall rfl rfl rfl (rgood_c _ c o ix ia _ _ b.body H hR1 hv) ?_))))))))
  rintro _ S2 ⟨rfl,hR2,hc2⟩
  refine qp rfl (qk (kc rfl (kc rfl (kc rfl kn))) kn (sqn (eseq (eseq (ereg (qp rfl (qp rfl (hsub (r:=((olds X A b.vars l).length:Int) - 1) rfl rfl (by simp;rw [i64w (by omega)]) (qp rfl (qk (kc rfl (kc rfl (kc rfl (kc rfl kn)))) kn (sqn (eblock (rbody_l2 (olds X A b.vars l) _ _ (olds X A b.vars l).length (Nat.le_refl _) (by omega) hR2 ?_)))))))))))))
  ·intro S3 hR3 hc3
   rw [List.take_length] at hR3
   refine bqx (sqn (eseq (ereg (qp rfl (qp rfl (qk (kc rfl kn) kn (sqn (eret (fqr rfl ?_)))))))))
   have d0:=undo_olds false b.vars l X A
   have d1:=undo_olds true b.vars l X A
   simp only [if_true,Bool.false_eq_true,if_false] at d0 d1
   rw [d0,d1] at hR3
   exact ⟨rfl,hR3,hc1.trans (hc2.trans hc3)⟩
end Go.Sim.Kd
namespace Go.Sim.Kd
open Go Go.Sim
theorem list_one {α:Type} {l:List α} (h:l.length=1):∃ a,l=[a]:=by
 match l,h with
 | [a],_=>exact ⟨a,rfl⟩
theorem list_two {α:Type} {l:List α} (h:l.length=2):∃ a b,l=[a,b]:=by
 match l,h with
 | [a,b],_=>exact ⟨a,b,rfl⟩
theorem list_three {α:Type} {l:List α} (h:l.length=3):∃ a b c,l=[a,b,c]:=by
 match l,h with
 | [a,b,c],_=>exact ⟨a,b,c,rfl⟩
theorem vNs_sorts {ds:List Decl} {fs:List CFun} {a:Node} {X A:Int → Bool} (h:vN ds fs a X A=true) {want:List Int} {xs:List Xtor} (hh:headOf ds fs a.op a.n a.ty=some (want,xs)):a.args.map (fun b=>sortOf b.op)=want:=by
 obtain ⟨w,x,h1,h2,_⟩:=vN_some h
 rw [hh] at h1
 cases h1
 have key:∀ (l:List Node) (ws:List Int) (X A:Int → Bool),vNs ds fs l ws X A=true → l.map (fun b=>sortOf b.op)=ws:=by
  intro l
  induction l with
  | nil=>intro ws X A h;cases ws with
    | nil=>rfl
    | cons w ws=>simp [vNs] at h
  | cons b l ih=>intro ws X A h;cases ws with
    | nil=>simp [vNs] at h
    | cons w ws =>
      simp only [vNs,Bool.and_eq_true,decide_eq_true_eq] at h
      rw [List.map_cons,h.1.1,ih ws X A h.2]
 exact key _ _ _ _ h2
theorem ref_mu {ds:List Decl} {fs:List CFun} {a:Node} {X A:Int → Bool} (h:vN ds fs a X A=true) (ho:a.op=3 ∨ a.op=7):∃ x,a.args=[x] ∧ sortOf x.op=2 ∧ vN ds fs x (if a.op=7 then addV X a.n else X) (if a.op=3 then addV A a.n else A)=true:=by
 obtain ⟨hl,hv⟩:=mu_len h ho
 obtain ⟨x,hx⟩:=list_one hl
 obtain ⟨w,y,hh⟩:=head_of h
 have hs:=vNs_sorts h hh
 rw [head_mu (decide_eq_true ho)] at hh
 have:=(if_some hh).2
 simp only [Prod.mk.injEq] at this
 rw [hx,← this.1] at hs
 simp at hs
 exact ⟨x,hx,hs,hv x (by rw [hx];simp)⟩
theorem ref_cut {ds:List Decl} {fs:List CFun} {a:Node} {X A:Int → Bool} (h:vN ds fs a X A=true) (ho:a.op=9):∃ x y,a.args=[x,y] ∧ vN ds fs x X A=true ∧ vN ds fs y X A=true:=by
 obtain ⟨hl,hv⟩:=cut_len h ho
 obtain ⟨x,y,hx⟩:=list_two hl
 exact ⟨x,y,hx,hv x (by rw [hx];simp),hv y (by rw [hx];simp)⟩
theorem ref_prim {ds:List Decl} {fs:List CFun} {a:Node} {X A:Int → Bool} (h:vN ds fs a X A=true) (ho:a.op=10):∃ x y z,a.args=[x,y,z] ∧ vN ds fs x X A=true ∧ vN ds fs y X A=true ∧ vN ds fs z X A=true:=by
 obtain ⟨w,q,hh⟩:=head_of h
 have hs:=vNs_sorts h hh
 have hv:=(test_len h (by omega)).2
 rw [head_prim (decide_eq_true ho)] at hh
 have:=(if_some hh).2
 simp only [Prod.mk.injEq] at this
 rw [← this.1] at hs
 obtain ⟨x,y,z,hx⟩:=list_three (l:=a.args) (by have:=congrArg List.length hs;simpa using this)
 exact ⟨x,y,z,hx,hv x (by rw [hx];simp),hv y (by rw [hx];simp),hv z (by rw [hx];simp)⟩
theorem ref_ifz {ds:List Decl} {fs:List CFun} {a:Node} {X A:Int → Bool} (h:vN ds fs a X A=true) (ho:a.op=11):∃ x y z,a.args=[x,y,z] ∧ sortOf y.op=2 ∧ sortOf z.op=2 ∧ vN ds fs x X A=true ∧ vN ds fs y X A=true ∧ vN ds fs z X A=true:=by
 obtain ⟨w,q,hh⟩:=head_of h
 have hs:=vNs_sorts h hh
 have hv:=(test_len h (by omega)).2
 rw [head_ifz (decide_eq_true ho)] at hh
 have:=(if_some hh).2
 simp only [Prod.mk.injEq] at this
 rw [← this.1] at hs
 obtain ⟨x,y,z,hx⟩:=list_three (l:=a.args) (by have:=congrArg List.length hs;simpa using this)
 rw [hx] at hs
 simp at hs
 exact ⟨x,y,z,hx,hs.2.1,hs.2.2,hv x (by rw [hx];simp),hv y (by rw [hx];simp),hv z (by rw [hx];simp)⟩
theorem ref_emit {ds:List Decl} {fs:List CFun} {a:Node} {X A:Int → Bool} (h:vN ds fs a X A=true) (ho:a.op=12):∃ x y,a.args=[x,y] ∧ sortOf y.op=2 ∧ vN ds fs x X A=true ∧ vN ds fs y X A=true:=by
 obtain ⟨w,q,hh⟩:=head_of h
 have hs:=vNs_sorts h hh
 have hv:=(test_len h (by omega)).2
 rw [head_emit (decide_eq_true ho)] at hh
 have:=(if_some hh).2
 simp only [Prod.mk.injEq] at this
 rw [← this.1] at hs
 obtain ⟨x,y,hx⟩:=list_two (l:=a.args) (by have:=congrArg List.length hs;simpa using this)
 rw [hx] at hs
 simp at hs
 exact ⟨x,y,hx,hs.2,hv x (by rw [hx];simp),hv y (by rw [hx];simp)⟩
theorem ref_done {ds:List Decl} {fs:List CFun} {a:Node} {X A:Int → Bool} (h:vN ds fs a X A=true) (ho:a.op=14):∃ x,a.args=[x] ∧ vN ds fs x X A=true:=by
 obtain ⟨w,q,hh⟩:=head_of h
 have hs:=vNs_sorts h hh
 have hv:=(test_len h (by omega)).2
 rw [head_done (decide_eq_true ho)] at hh
 have:=(if_some hh).2
 simp only [Prod.mk.injEq] at this
 rw [← this.1] at hs
 obtain ⟨x,hx⟩:=list_one (l:=a.args) (by have:=congrArg List.length hs;simpa using this)
 exact ⟨x,hx,hv x (by rw [hx];simp)⟩
theorem vB_sort {ds:List Decl} {fs:List CFun} {b:Br} {x:Xtor} {X A:Int → Bool} (h:vB ds fs b x X A=true):sortOf b.body.op=2:=by
 simp only [vB_eq,Bool.and_eq_true,decide_eq_true_eq] at h
 exact h.1.2
theorem out_op {ds:List Decl} {fs:List CFun} {a:Node} {X A:Int → Bool} (h:vN ds fs a X A=true) (h0:a.op ≠ 0) (h1:a.op ≠ 1) (h2:¬ (a.op=2 ∨ a.op=6)) (h3:¬ (a.op=3 ∨ a.op=7)) (h4:¬ (a.op=4 ∨ a.op=8)) (h5:a.op ≠ 5) (h9:a.op ≠ 9) (h10:a.op ≠ 10) (h11:a.op ≠ 11) (h12:a.op ≠ 12) (h13:a.op ≠ 13):a.op=14:=by
 have:=op_range h
 omega
theorem rty_l1 {o ix ia:Nat} (nd:Node) (c:Core) (l:List Br) (d:Decl) (hdl:c.decls.length ≤ 2 ^ 40) (hty:1 ≤ nd.ty ∧ nd.ty ≤ c.decls.length) (hd0:c.decls[(nd.ty - 1).toNat]?=some d) (hxa:∀ x ∈ d.xtors,x.args.length ≤ 2 ^ 40) (hzb:∀ b ∈ l,b.sz ≤ 2 ^ 40) (X A:Int → Option Int) (hlen:l.length=d.xtors.length) (H:∀ b ∈ l,RC c b.body) (hvb:∀ (i:Nat) (b:Br) (x:Xtor),l[i]?=some b → d.xtors[i]?=some x → vB c.decls c.funs b x (dom X) (dom A)=true) (i:Nat) (hi:i ≤ l.length) (hs:l.length ≤ 2 ^ 40) {n:Nat} {v:Nat → Bool} {D:List (Nat × List AV)} {S:Sg} {Q:Ex → Fr → Prop}
 (hR:RT o ix ia X A S) (hX:∀ j S',tBs c.decls c.funs (l.drop i) (d.xtors.drop i) X A=true → RT o ix ia X A S' → Chg (IXA ix ia) S S' → Q (.exit 1) ⟨upd (upd (upd (upd (upd (upd (upd ((fun _=>none)) 88 (some (.val (B false)))) 87 (some (.val (I j)))) 86 (some (.val (I (l.map Br.enc).length)))) 85 (some (.val (.slice .none 7 (l.map Br.enc))))) 5 (some (.loc 5 0))) 4 (some (.loc 4 0))) 0 (some (.val (.ptr o 0))),upd (upd ((fun _=>none)) 5 (some (nd.cs))) 4 (some (Core.cs c)),n,v,D,S'⟩)
 (hF:∀ S',tBs c.decls c.funs (l.drop i) (d.xtors.drop i) X A=false → RT o ix ia X A S' → Chg (IXA ix ia) S S' → Q .ret ⟨upd (upd ((fun _=>none)) 7 (some (.val (B false)))) 6 (some (.val (I 0))),(fun _=>none),n,v,D,S'⟩):EX (callL p) (.loop F19_l1) ⟨upd (upd (upd (upd (upd (upd ((fun _=>none)) 87 (some (.val (I i)))) 86 (some (.val (I (l.map Br.enc).length)))) 85 (some (.val (.slice .none 7 (l.map Br.enc))))) 5 (some (.loc 5 0))) 4 (some (.loc 4 0))) 0 (some (.val (.ptr o 0))),upd (upd ((fun _=>none)) 5 (some (nd.cs))) 4 (some (Core.cs c)),n,v,D,S⟩ Q:=by
 refine eloop (eseq (ereg (qp rfl (qb ?_))))
 rintro (_ | _) h1
 ·refine qk (kc rfl (kc rfl (kc rfl (kc rfl (kc rfl (kc rfl (kc rfl kn))))))) (kc rfl (kc rfl kn)) (sqn (eseq (ecF rfl (eexit (sqx ?_)))))
  exact hX _ _ (by rw [List.drop_eq_nil_of_le (by simp at h1 ⊢;omega),tBs];simp) hR (Chg.refl _)
 ·refine qk (kc rfl (kc rfl (kc rfl (kc rfl (kc rfl (kc rfl (kc rfl kn))))))) (kc rfl (kc rfl kn)) (sqn (eseq (ecT rfl (eskip (sqn (eseq (eblock (eseq (ereg (qp rfl ?_))))))))))
  have hlt:i < l.length:=by simpa using h1
  obtain ⟨a,ha⟩:=get_of_lt hlt
  have hd:=drop_cons ha
  refine hia (y:=.agg (ints a.vars :: bools a.co :: a.body.cs)) rfl rfl (by omega) (by simp [ha,Node.enc_eq,Br.enc_eq,CFun.enc_eq]) rfl (hlda rfl rfl (lc rfl (lc rfl (lc rfl (lc rfl (lc rfl (lc rfl (lc rfl (ln rfl)))))))) (hal (dc (dc (dc (dc (dc (dc (dc (dc (dc (dc dn rfl) rfl) rfl) rfl) rfl) rfl) rfl) rfl) rfl) rfl) (qp rfl (hstl rfl rfl rfl rfl (Nat.le_of_ble_eq_true rfl) (lc rfl (lc rfl (lc rfl (lc rfl (lc rfl (lc rfl (lc rfl (ln rfl)))))))) (qk (kc rfl (kc rfl (kc rfl (kc rfl (kc rfl (kc rfl (kc rfl (kc rfl kn)))))))) (kc rfl (kc rfl (kc rfl kn))) (sqn (eseq (ereg ?_))))))))
  obtain ⟨x,hx⟩:=get_of_lt (l:=d.xtors) (i:=i) (by omega)
  have hx2:=drop_cons hx
  have hd':=hd
  have hvb1:=hvb i a x ha hx
  obtain ⟨hvl,hvn⟩:=vB_info hvb1
  have hso:=vB_sort hvb1
  refine qp rfl (hlda rfl rfl (lc rfl (lc rfl (ln rfl))) (hlda rfl rfl (lc rfl (lc rfl (lc rfl (lc rfl (lc rfl (lc rfl (lc rfl (ln rfl)))))))) (qp rfl (qp rfl (qp rfl (qp rfl (hsub rfl rfl (i64w (by omega)) ?_)))))))
  refine hia (y:=Decl.enc d) rfl rfl (by omega) (by rw [List.getElem?_map,hd0];rfl) rfl ?_
  refine qp rfl (qp rfl (qp rfl (hia (y:=Xtor.enc x) rfl rfl (by omega) (by simp [hx]) rfl (qp rfl (qp rfl (hcall rfl rfl rfl (rbody_c _ c o ix ia X A a x.args (hxa x (List.mem_of_getElem? hx)) hvl (H a (List.mem_of_getElem? ha)) hR hvn) ?_))))))
  rintro _ S1 ⟨rfl,hR1,hc1⟩
  refine qb ?_
  rintro (_ | _) h2
  ·refine qp rfl (qk (kc rfl (kc rfl (kc rfl (kc rfl (kc rfl (kc rfl (kc rfl kn))))))) (kc rfl (kc rfl kn)) (sqn (ecT rfl (eseq (ereg (qp rfl (qp rfl (qk (kc rfl (kc rfl kn)) kn (sqn (eret (bqr (sqr ?_))))))))))))
   have g:(tN c.decls c.funs a.body (bindsT false X a.vars x.args) (bindsT true A a.vars x.args)).isSome=false:=by assumption
   have e:tBs c.decls c.funs (l.drop i) (d.xtors.drop i) X A=false:=by
    rw [hd',hx2,tBs,tB_eq,← good_zero hso,g,Bool.false_and]
   exact hF _ e hR1 hc1
  ·refine qp rfl (qk (kc rfl (kc rfl (kc rfl (kc rfl (kc rfl (kc rfl (kc rfl kn))))))) (kc rfl (kc rfl kn)) (sqn (ecF rfl (eskip (bqn (sqn (ereg (hadd rfl rfl (i64w (by omega)) (qp rfl (qk (kc rfl (kc rfl (kc rfl (kc rfl (kc rfl (kc rfl kn)))))) (kc rfl (kc rfl kn)) ?_))))))))))
   have g:(tN c.decls c.funs a.body (bindsT false X a.vars x.args) (bindsT true A a.vars x.args)).isSome=true:=by assumption
   have e:tBs c.decls c.funs (l.drop i) (d.xtors.drop i) X A=tBs c.decls c.funs (l.drop (i + 1)) (d.xtors.drop (i + 1)) X A:=by
    rw [hd',hx2,tBs,tB_eq,← good_zero hso,g,Bool.true_and]
   exact rty_l1 nd c l d hdl hty hd0 hxa hzb X A hlen H hvb (i + 1) (by omega) hs hR1 (fun j S' h k2 c2=>hX j S' (e.trans h) k2 (hc1.trans c2)) (fun S' h k2 c2=>hF S' (e.trans h) k2 (hc1.trans c2))
termination_by l.length - i
decreasing_by all_goals omega
theorem rtype_c0 (s:Sg) (c:Core) (hc:CoreSz c) (o ix ia:Nat) (X A:Int → Option Int) (a:Node) (hz:a.sz ≤ 2 ^ 40) (H:∀ b ∈ a.args,RC c b) (H2:∀ b ∈ a.brs,RC c b.body) (hR:RT o ix ia X A s) (hv:vN c.decls c.funs a (dom X) (dom A)=true):HC p N19_ [.ptr o 0,.agg (Core.cs c),.agg a.cs] s (fun r s'=>RPost o ix ia X A s (tN c.decls c.funs a X A) r s'):=by
 refine hcf rfl f19_ rfl ?_
 simp only [chainOf]
 refine eseq (ereg (hbox (dc (dc (dc dn rfl) rfl) rfl) rfl (lc rfl (lc rfl (ln rfl))) (hbox (dc (dc (dc (dc dn rfl) rfl) rfl) rfl) rfl (lc rfl (lc rfl (lc rfl (lc rfl (lc rfl (ln rfl)))))) (qp rfl (qp rfl (qk (kc rfl (kc rfl (kc rfl kn))) (kc rfl (kc rfl kn)) (sqn (eseq (eseq (ereg (qp rfl (qp rfl (qk (kc rfl (kc rfl (kc rfl (kc rfl kn)))) (kc rfl (kc rfl kn)) (sqn (eblock (eseq (ereg (qp rfl (qb ?_)))))))))))))))))))
 rintro (_ | _) h1
 ·refine qp rfl (qk (kc rfl (kc rfl (kc rfl (kc rfl (kc rfl kn))))) (kc rfl (kc rfl kn)) (sqn (ecF rfl (eseq (ereg (qp rfl (qb ?_)))))))
  rintro (_ | _) h2
  ·refine qp rfl (qk (kc rfl (kc rfl (kc rfl (kc rfl (kc rfl kn))))) (kc rfl (kc rfl kn)) (sqn (ecF rfl (eseq (ereg (qp rfl (qb ?_)))))))
   rintro (_ | _) h3
   ·refine qp rfl (qk (kc rfl (kc rfl (kc rfl (kc rfl (kc rfl kn))))) (kc rfl (kc rfl kn)) (sqn (ecF rfl (eseq ?_))))
    refine ejoin 34 (decide (a.op=2 ∨ a.op=6)) (k:=[0,4,5,13,34]) (kl:=[4,5]) (kc rfl (kc rfl (kc rfl (kc rfl (kc rfl kn))))) (kc rfl (kc rfl kn)) ?_ ?_
    ·refine eseq (ereg (qp rfl (qb ?_)))
     rintro (_ | _) h4
     ·refine qp rfl (qk (kc rfl (kc rfl (kc rfl (kc rfl (kc rfl kn))))) (kc rfl (kc rfl kn)) (sqn (ecF rfl (ereg (qp rfl (qb ?_))))))
      rintro (_ | _) h5
      ·refine qp rfl (qk (kc rfl (kc rfl (kc rfl (kc rfl (kc rfl kn))))) (kc rfl (kc rfl kn)) ?_)
       exact ⟨rfl,by rw [show (decide (a.op=2 ∨ a.op=6))=false from by (simp_all;try omega)]⟩
      ·refine qp rfl (qk (kc rfl (kc rfl (kc rfl (kc rfl (kc rfl kn))))) (kc rfl (kc rfl kn)) ?_)
       exact ⟨rfl,by rw [show (decide (a.op=2 ∨ a.op=6))=true from by (simp_all;try omega)]⟩
     ·refine qp rfl (qk (kc rfl (kc rfl (kc rfl (kc rfl (kc rfl kn))))) (kc rfl (kc rfl kn)) (sqn (ecT rfl (eskip ?_))))
      exact ⟨rfl,by rw [show (decide (a.op=2 ∨ a.op=6))=true from by (simp_all;try omega)]⟩
    ·refine sqn ?_
     refine ecS rfl ?_ ?_
     ·intro h6
      refine eseq (ereg ?_)
      have ho:a.op=2 ∨ a.op=6:=of_decide_eq_true (by assumption)
      obtain ⟨d,x,hda,hn,hx,hl,hva⟩:=xtor_len hv ho
      have hd:=declAt_get hda
      have hxa:=hc.xa d (List.mem_of_getElem? hd.2.2) x (List.mem_of_getElem? hx)
      have hdl:=hc.dl
      refine qp rfl (qp rfl (qp rfl (hlda rfl rfl (lc rfl (lc rfl (ln rfl))) (hlda rfl rfl (lc rfl (lc rfl (lc rfl (lc rfl (lc rfl (ln rfl)))))) (qp rfl (qp rfl (qp rfl (qp rfl (hsub rfl rfl (i64w (by omega)) ?_)))))))))
      refine hia (y:=Decl.enc d) rfl rfl (by omega) (by rw [List.getElem?_map,hd.2.2];rfl) rfl ?_
      refine qp rfl (qp rfl (qp rfl (qp rfl ?_)))
      refine hia (y:=Xtor.enc x) rfl rfl hn (by rw [List.getElem?_map,hx];rfl) rfl ?_
      refine qp rfl (qp rfl (hcall rfl rfl rfl (rargs_c _ c o ix ia X A a x.args hxa hl H hR hva) ?_))
      rintro _ S1 ⟨rfl,hR1,hc1⟩
      refine qp rfl (qp rfl (qk (kc rfl (kc rfl kn)) kn (sqn (eret (bqr (sqr (fqr rfl ?_)))))))
      refine ⟨_,_,rfl,?_,hR1,hc1⟩
      rw [tN_eq _ _ a,xtorTys,hda]
      simp only [hx]
      rcases ho with h | h <;> simp [h]
     ·intro h6
      refine eseq ?_
      refine ejoin 56 (decide (a.op=3 ∨ a.op=7)) (k:=[0,4,5,13,56]) (kl:=[4,5]) (kc rfl (kc rfl (kc rfl (kc rfl (kc rfl kn))))) (kc rfl (kc rfl kn)) ?_ ?_
      ·refine eseq (ereg (qp rfl (qb ?_)))
       rintro (_ | _) h7
       ·refine qp rfl (qk (kc rfl (kc rfl (kc rfl (kc rfl (kc rfl kn))))) (kc rfl (kc rfl kn)) (sqn (ecF rfl (ereg (qp rfl (qb ?_))))))
        rintro (_ | _) h8
        ·refine qp rfl (qk (kc rfl (kc rfl (kc rfl (kc rfl (kc rfl kn))))) (kc rfl (kc rfl kn)) ?_)
         exact ⟨rfl,by rw [show (decide (a.op=3 ∨ a.op=7))=false from by (simp_all;try omega)]⟩
        ·refine qp rfl (qk (kc rfl (kc rfl (kc rfl (kc rfl (kc rfl kn))))) (kc rfl (kc rfl kn)) ?_)
         exact ⟨rfl,by rw [show (decide (a.op=3 ∨ a.op=7))=true from by (simp_all;try omega)]⟩
       ·refine qp rfl (qk (kc rfl (kc rfl (kc rfl (kc rfl (kc rfl kn))))) (kc rfl (kc rfl kn)) (sqn (ecT rfl (eskip ?_))))
        exact ⟨rfl,by rw [show (decide (a.op=3 ∨ a.op=7))=true from by (simp_all;try omega)]⟩
      ·refine sqn ?_
       refine ecS rfl ?_ ?_
       ·intro h9
        refine eseq (ereg ?_)
        have ho:a.op=3 ∨ a.op=7:=of_decide_eq_true (by assumption)
        obtain ⟨x,hargs,hso,hvx⟩:=ref_mu hv ho
        obtain ⟨hd1,hd2⟩:=mu_dom (a:=a) X A ho
        obtain ⟨he1,he2⟩:=mu_binds (a:=a) X A ho
        rw [← hd1,← hd2] at hvx
        refine qp rfl (qp rfl (qp rfl (qp rfl (qp rfl (qp rfl (qp rfl (qp rfl (hcall rfl rfl rfl (rbind_c _ o ix ia X A (decide (a.op=3)) a.n a.ty hR) ?_))))))))
        rintro _ S1 ⟨rfl,hR1,hc1⟩
        have hR1':RT o ix ia (bindsT false X [a.n] [⟨a.ty,decide (a.op=3)⟩]) (bindsT true A [a.n] [⟨a.ty,decide (a.op=3)⟩]) S1:=by simpa [bindsT] using hR1
        refine hal (dc (dc (dc (dc (dc (dc (dc (dc (dc (dc (dc (dc (dc (dc dn rfl) rfl) rfl) rfl) rfl) rfl) rfl) rfl) rfl) rfl) rfl) rfl) rfl) rfl) (hstl rfl rfl rfl rfl (Nat.le_of_ble_eq_true rfl) (lc rfl (lc rfl (lc rfl (lc rfl (ln rfl))))) (qk (kc rfl (kc rfl (kc rfl (kc rfl kn)))) (kc rfl (kc rfl (kc rfl kn))) (sqn (eseq (ereg (qp rfl (hlda rfl rfl (lc rfl (lc rfl (ln rfl))) (qp rfl (qp rfl (hia (y:=.agg x.cs) rfl rfl (by omega) (by rw [hargs];simp [Node.enc_eq]) rfl (hlda rfl rfl (lc rfl (lc rfl (lc rfl (lc rfl (lc rfl (ln rfl)))))) (hcall rfl rfl rfl (rgood_c _ c o ix ia _ _ x (H x (by rw [hargs];simp)) hR1' hvx) ?_))))))))))))
        rintro _ S2 ⟨rfl,hR2,hc2⟩
        refine qp rfl (qk (kc rfl (kc rfl (kc rfl (kc rfl kn)))) (kc rfl (kc rfl kn)) (sqn (eseq (ereg (qp rfl (hlda rfl rfl (lc rfl (lc rfl (lc rfl (lc rfl (ln rfl))))) (hcall rfl rfl rfl (rrest_c _ o ix ia _ _ (decide (a.op=3)) a.n ((if decide (a.op=3)=true then A else X) a.n) hR2) ?_)))))))
        rintro _ S3 ⟨rfl,hR3,hc3⟩
        refine qk (kc rfl (kc rfl kn)) (kc rfl kn) (sqn (eseq (ereg (qp rfl (qp rfl (qp rfl (qp rfl (qp rfl (qk (kc rfl (kc rfl kn)) kn (sqn (eret (bqr (sqr (fqr rfl ?_))))))))))))))
        refine ⟨_,_,rfl,?_,?_,hc1.trans (hc2.trans hc3)⟩
        ·rw [good_zero hso,tN_eq _ _ a,hargs,he1,he2]
         rcases ho with h | h <;> simp [h,tNs]
        ·have e1:(if decide (a.op=3)=false then setT (bindsT false X [a.n] [⟨a.ty,decide (a.op=3)⟩]) a.n ((if decide (a.op=3)=true then A else X) a.n) else bindsT false X [a.n] [⟨a.ty,decide (a.op=3)⟩])=X:=by
          rcases ho with h | h <;> simp [h,bindsT,setT_back]
         have e2:(if decide (a.op=3)=true then setT (bindsT true A [a.n] [⟨a.ty,decide (a.op=3)⟩]) a.n ((if decide (a.op=3)=true then A else X) a.n) else bindsT true A [a.n] [⟨a.ty,decide (a.op=3)⟩])=A:=by
          rcases ho with h | h <;> simp [h,bindsT,setT_back]
         rw [e1,e2] at hR3
         exact hR3
       ·intro h9
        refine eseq ?_
        refine ejoin 81 (decide (a.op=4 ∨ a.op=8)) (k:=[0,4,5,13,81]) (kl:=[4,5]) (kc rfl (kc rfl (kc rfl (kc rfl (kc rfl kn))))) (kc rfl (kc rfl kn)) ?_ ?_
        ·refine eseq (ereg (qp rfl (qb ?_)))
         rintro (_ | _) h10
         ·refine qp rfl (qk (kc rfl (kc rfl (kc rfl (kc rfl (kc rfl kn))))) (kc rfl (kc rfl kn)) (sqn (ecF rfl (ereg (qp rfl (qb ?_))))))
          rintro (_ | _) h11
          ·refine qp rfl (qk (kc rfl (kc rfl (kc rfl (kc rfl (kc rfl kn))))) (kc rfl (kc rfl kn)) ?_)
           exact ⟨rfl,by rw [show (decide (a.op=4 ∨ a.op=8))=false from by (simp_all;try omega)]⟩
          ·refine qp rfl (qk (kc rfl (kc rfl (kc rfl (kc rfl (kc rfl kn))))) (kc rfl (kc rfl kn)) ?_)
           exact ⟨rfl,by rw [show (decide (a.op=4 ∨ a.op=8))=true from by (simp_all;try omega)]⟩
         ·refine qp rfl (qk (kc rfl (kc rfl (kc rfl (kc rfl (kc rfl kn))))) (kc rfl (kc rfl kn)) (sqn (ecT rfl (eskip ?_))))
          exact ⟨rfl,by rw [show (decide (a.op=4 ∨ a.op=8))=true from by (simp_all;try omega)]⟩
        ·refine sqn ?_
         refine ecS rfl ?_ ?_
         ·intro h12
          refine eseq (eseq (ereg (qp rfl (qp rfl (qp rfl (qp rfl (qk (kc rfl (kc rfl (kc rfl (kc rfl (kc rfl (kc rfl kn)))))) (kc rfl (kc rfl kn)) (sqn (eblock ?_)))))))))
          have ho:a.op=4 ∨ a.op=8:=of_decide_eq_true (by assumption)
          obtain ⟨d,hda,hvb⟩:=brs_len hv ho
          have hd:=declAt_get hda
          refine rty_l1 a c a.brs d hc.dl ⟨hd.1,hd.2.1⟩ hd.2.2 (hc.xa d (List.mem_of_getElem? hd.2.2)) (fun b hb=>by have:=Node.sz_br hb;omega) X A (vBs_len hvb) H2 (fun i b x h1 h2=>vBs_at hvb h1 h2) 0 (by omega) (by have:=a.sz_brs;omega) hR ?_ ?_
          ·intro j S1 hj hR1 hc1
           refine bqx (sqn (eseq (ereg (qp rfl (qp rfl (qp rfl (qp rfl (qk (kc rfl (kc rfl kn)) kn (sqn (eret (bqr (sqr (fqr rfl ?_)))))))))))))
           refine ⟨_,_,rfl,?_,hR1,hc1⟩
           rw [tN_eq _ _ a,xtorsOf,hda]
           rw [List.drop_zero,List.drop_zero] at hj
           rcases ho with h | h <;> simp [h,hj]
          ·intro S1 hj hR1 hc1
           refine bqr (sqr (bqr (sqr (fqr rfl ?_))))
           refine ⟨_,_,rfl,?_,hR1,hc1⟩
           rw [tN_eq _ _ a,xtorsOf,hda]
           rw [List.drop_zero,List.drop_zero] at hj
           rcases ho with h | h <;> simp [h,hj]
         ·intro h12
          refine eseq (ereg (qp rfl (qb ?_)))
          rintro (_ | _) h13
          ·refine qp rfl (qk (kc rfl (kc rfl (kc rfl (kc rfl (kc rfl kn))))) (kc rfl (kc rfl kn)) (sqn (ecF rfl (eseq (ereg (qp rfl (qb ?_)))))))
           rintro (_ | _) h14
           ·refine qp rfl (qk (kc rfl (kc rfl (kc rfl (kc rfl (kc rfl kn))))) (kc rfl (kc rfl kn)) (sqn (ecF rfl (eseq (ereg (qp rfl (qb ?_)))))))
            rintro (_ | _) h15
            ·refine qp rfl (qk (kc rfl (kc rfl (kc rfl (kc rfl (kc rfl kn))))) (kc rfl (kc rfl kn)) (sqn (ecF rfl (eseq (ereg (qp rfl (qb ?_)))))))
             rintro (_ | _) h16
             ·refine qp rfl (qk (kc rfl (kc rfl (kc rfl (kc rfl (kc rfl kn))))) (kc rfl (kc rfl kn)) (sqn (ecF rfl (eseq (ereg (qp rfl (qb ?_)))))))
              rintro (_ | _) h17
              ·refine qp rfl (qk (kc rfl (kc rfl (kc rfl (kc rfl kn)))) (kc rfl (kc rfl kn)) (sqn (ecF rfl (eskip (bqn (sqn (eseq (ereg ?_))))))))
               have ho:=out_op hv (of_decide_eq_false (by assumption)) (of_decide_eq_false (by assumption)) (of_decide_eq_false (by assumption)) (of_decide_eq_false (by assumption)) (of_decide_eq_false (by assumption)) (of_decide_eq_false (by assumption)) (of_decide_eq_false (by assumption)) (of_decide_eq_false (by assumption)) (of_decide_eq_false (by assumption)) (of_decide_eq_false (by assumption)) (of_decide_eq_false (by assumption))
               obtain ⟨x,hargs,hvx⟩:=ref_done hv ho
               refine qp rfl (hlda rfl rfl (lc rfl (lc rfl (ln rfl))) (qp rfl (qp rfl (hia (y:=.agg x.cs) rfl rfl (by omega) (by rw [hargs];simp [Node.enc_eq]) rfl (hlda rfl rfl (lc rfl (lc rfl (lc rfl (lc rfl (lc rfl (ln rfl)))))) (hcall rfl rfl rfl (rhas_c _ c o ix ia X A x 0 (H x (by rw [hargs];simp)) hR hvx) ?_))))))
               rintro _ S1 ⟨rfl,hR1,hc1⟩
               refine qp rfl (qp rfl (qk (kc rfl (kc rfl kn)) kn (sqn (eret (fqr rfl ?_)))))
               refine ⟨_,_,rfl,?_,hR1,hc1⟩
               rw [tN_eq _ _ a,hargs]
               simp [tNs,ho]
              ·refine qp rfl (qk (kc rfl (kc rfl (kc rfl (kc rfl kn)))) (kc rfl (kc rfl kn)) (sqn (ecT rfl (eseq (ereg ?_)))))
               have ho:a.op=13:=of_decide_eq_true (by assumption)
               obtain ⟨g,hg,hn,hl,hva⟩:=call_len hv ho
               have hgp:=hc.ga g (List.mem_of_getElem? hg)
               refine qp rfl (hlda rfl rfl (lc rfl (lc rfl (ln rfl))) (hlda rfl rfl (lc rfl (lc rfl (lc rfl (lc rfl (lc rfl (ln rfl)))))) (qp rfl (qp rfl (qp rfl (qp rfl ?_))))))
               refine hia (y:=.agg (Str g.name :: encArgs g.params :: ints g.vars :: g.body.cs)) rfl rfl hn (by rw [List.getElem?_map,hg];simp [CFun.enc_eq]) rfl ?_
               refine qp rfl (qp rfl (hcall rfl rfl rfl (rargs_c _ c o ix ia X A a g.params hgp hl H hR hva) ?_))
               rintro _ S1 ⟨rfl,hR1,hc1⟩
               refine qp rfl (qp rfl (qk (kc rfl (kc rfl kn)) kn (sqn (eret (bqr (sqr (fqr rfl ?_)))))))
               refine ⟨_,_,rfl,?_,hR1,hc1⟩
               rw [tN_eq _ _ a,parTys,hg]
               simp [ho]
             ·refine qp rfl (qk (kc rfl (kc rfl (kc rfl (kc rfl (kc rfl kn))))) (kc rfl (kc rfl kn)) (sqn (ecT rfl (eseq (ereg ?_)))))
              have ho:a.op=12:=of_decide_eq_true (by assumption)
              obtain ⟨x,y,hargs,hsy,hvx,hvy⟩:=ref_emit hv ho
              refine qp rfl (hlda rfl rfl (lc rfl (lc rfl (ln rfl))) (qp rfl (qp rfl (hia (y:=.agg x.cs) rfl rfl (by omega) (by rw [hargs];simp [Node.enc_eq]) rfl (hlda rfl rfl (lc rfl (lc rfl (lc rfl (lc rfl (lc rfl (ln rfl)))))) (hcall rfl rfl rfl (rhas_c _ c o ix ia X A x 0 (H x (by rw [hargs];simp)) hR hvx) ?_))))))
              rintro _ S1 ⟨rfl,hR1,hc1⟩
              refine qb ?_
              rintro (_ | _) h18
              ·refine qp rfl (qs rfl rfl (by decide) (qs rfl rfl (by decide) (qs rfl rfl (by decide) (qs rfl rfl (by decide) (qs rfl rfl (by decide) (qs rfl rfl (by decide) (qs rfl rfl (by decide) (qp rfl (qp rfl (qp rfl (qk (kc rfl (kc rfl kn)) kn (sqn (eret (bqr (sqr (fqr rfl ?_))))))))))))))))
               first
               | (refine ⟨_,_,rfl,?_,hR3,hc1.trans (hc2.trans hc3)⟩
                  rw [tN_eq _ _ a,hargs]
                  try rw [good_zero hsy]
                  simp only [tNs,ho]
                  simp_all)
               | (refine ⟨_,_,rfl,?_,hR2,hc1.trans hc2⟩
                  rw [tN_eq _ _ a,hargs]
                  try rw [good_zero hsy]
                  simp only [tNs,ho]
                  simp_all)
               | (refine ⟨_,_,rfl,?_,hR1,hc1⟩
                  rw [tN_eq _ _ a,hargs]
                  try rw [good_zero hsy]
                  simp only [tNs,ho]
                  simp_all)
              ·refine qp rfl (qg rfl (qp rfl (qg rfl (hlda rfl rfl (lc rfl (lc rfl (ln rfl))) (qg rfl (qp rfl (qg rfl (qp rfl (qg rfl (hia (y:=.agg y.cs) rfl rfl (by omega) (by rw [hargs];simp [Node.enc_eq]) rfl (qg rfl (hlda rfl rfl (lc rfl (lc rfl (lc rfl (lc rfl (lc rfl (ln rfl)))))) (qg rfl (hcall rfl rfl rfl (rgood_c _ c o ix ia X A y (H y (by rw [hargs];simp)) hR1 hvy) ?_))))))))))))))
               rintro _ S2 ⟨rfl,hR2,hc2⟩
               refine qp rfl (qp rfl (qp rfl (qk (kc rfl (kc rfl kn)) kn (sqn (eret (bqr (sqr (fqr rfl ?_))))))))
               first
               | (refine ⟨_,_,rfl,?_,hR3,hc1.trans (hc2.trans hc3)⟩
                  rw [tN_eq _ _ a,hargs]
                  try rw [good_zero hsy]
                  simp only [tNs,ho]
                  simp_all)
               | (refine ⟨_,_,rfl,?_,hR2,hc1.trans hc2⟩
                  rw [tN_eq _ _ a,hargs]
                  try rw [good_zero hsy]
                  simp only [tNs,ho]
                  simp_all)
               | (refine ⟨_,_,rfl,?_,hR1,hc1⟩
                  rw [tN_eq _ _ a,hargs]
                  try rw [good_zero hsy]
                  simp only [tNs,ho]
                  simp_all)
            ·refine qp rfl (qk (kc rfl (kc rfl (kc rfl (kc rfl (kc rfl kn))))) (kc rfl (kc rfl kn)) (sqn (ecT rfl (eseq (ereg ?_)))))
             have ho:a.op=11:=of_decide_eq_true (by assumption)
             obtain ⟨x,y,z,hargs,hsy,hsz,hvx,hvy,hvz⟩:=ref_ifz hv ho
             refine qp rfl (hlda rfl rfl (lc rfl (lc rfl (ln rfl))) (qp rfl (qp rfl (hia (y:=.agg x.cs) rfl rfl (by omega) (by rw [hargs];simp [Node.enc_eq]) rfl (hlda rfl rfl (lc rfl (lc rfl (lc rfl (lc rfl (lc rfl (ln rfl)))))) (hcall rfl rfl rfl (rhas_c _ c o ix ia X A x 0 (H x (by rw [hargs];simp)) hR hvx) ?_))))))
             rintro _ S1 ⟨rfl,hR1,hc1⟩
             refine qb ?_
             rintro (_ | _) h19
             ·refine qp rfl (qs rfl rfl (by decide) (qs rfl rfl (by decide) (qs rfl rfl (by decide) (qs rfl rfl (by decide) (qs rfl rfl (by decide) (qs rfl rfl (by decide) (qs rfl rfl (by decide) (qp rfl (qp rfl (qs rfl rfl (by decide) (qs rfl rfl (by decide) (qs rfl rfl (by decide) (qs rfl rfl (by decide) (qs rfl rfl (by decide) (qs rfl rfl (by decide) (qs rfl rfl (by decide) (qp rfl (qp rfl (qp rfl (qk (kc rfl (kc rfl kn)) kn (sqn (eret (bqr ?_)))))))))))))))))))))))
              refine sqr (fqr rfl ?_)
              first
              | (refine ⟨_,_,rfl,?_,hR3,hc1.trans (hc2.trans hc3)⟩
                 rw [tN_eq _ _ a,hargs]
                 try rw [good_zero hsz]
                 try rw [good_zero hsy] at *
                 simp only [tNs,ho]
                 simp_all)
              | (refine ⟨_,_,rfl,?_,hR2,hc1.trans hc2⟩
                 rw [tN_eq _ _ a,hargs]
                 try rw [good_zero hsz]
                 try rw [good_zero hsy] at *
                 simp only [tNs,ho]
                 simp_all)
              | (refine ⟨_,_,rfl,?_,hR1,hc1⟩
                 rw [tN_eq _ _ a,hargs]
                 try rw [good_zero hsz]
                 try rw [good_zero hsy] at *
                 simp only [tNs,ho]
                 simp_all)
             ·refine qp rfl (qg rfl (qp rfl (qg rfl (hlda rfl rfl (lc rfl (lc rfl (ln rfl))) (qg rfl (qp rfl (qg rfl (qp rfl (qg rfl (hia (y:=.agg y.cs) rfl rfl (by omega) (by rw [hargs];simp [Node.enc_eq]) rfl (qg rfl (hlda rfl rfl (lc rfl (lc rfl (lc rfl (lc rfl (lc rfl (ln rfl)))))) (qg rfl (hcall rfl rfl rfl (rgood_c _ c o ix ia X A y (H y (by rw [hargs];simp)) hR1 hvy) ?_))))))))))))))
              rintro _ S2 ⟨rfl,hR2,hc2⟩
              refine qb ?_
              rintro (_ | _) h20
              ·refine qp rfl (qp rfl (qs rfl rfl (by decide) (qs rfl rfl (by decide) (qs rfl rfl (by decide) (qs rfl rfl (by decide) (qs rfl rfl (by decide) (qs rfl rfl (by decide) (qs rfl rfl (by decide) (qp rfl (qp rfl (qp rfl (qk (kc rfl (kc rfl kn)) kn (sqn (eret (bqr (sqr (fqr rfl ?_)))))))))))))))))
               first
               | (refine ⟨_,_,rfl,?_,hR3,hc1.trans (hc2.trans hc3)⟩
                  rw [tN_eq _ _ a,hargs]
                  try rw [good_zero hsz]
                  try rw [good_zero hsy] at *
                  simp only [tNs,ho]
                  simp_all)
               | (refine ⟨_,_,rfl,?_,hR2,hc1.trans hc2⟩
                  rw [tN_eq _ _ a,hargs]
                  try rw [good_zero hsz]
                  try rw [good_zero hsy] at *
                  simp only [tNs,ho]
                  simp_all)
               | (refine ⟨_,_,rfl,?_,hR1,hc1⟩
                  rw [tN_eq _ _ a,hargs]
                  try rw [good_zero hsz]
                  try rw [good_zero hsy] at *
                  simp only [tNs,ho]
                  simp_all)
              ·refine qp rfl (qp rfl (qg rfl (qp rfl (qg rfl (hlda rfl rfl (lc rfl (lc rfl (ln rfl))) (qg rfl (qp rfl (qg rfl (qp rfl (qg rfl (hia (y:=.agg z.cs) rfl rfl (by omega) (by rw [hargs];simp [Node.enc_eq]) rfl (qg rfl (hlda rfl rfl (lc rfl (lc rfl (lc rfl (lc rfl (lc rfl (ln rfl)))))) (qg rfl (hcall rfl rfl rfl (rgood_c _ c o ix ia X A z (H z (by rw [hargs];simp)) hR2 hvz) ?_)))))))))))))))
               rintro _ S3 ⟨rfl,hR3,hc3⟩
               refine qp rfl (qp rfl (qp rfl (qk (kc rfl (kc rfl kn)) kn (sqn (eret (bqr (sqr (fqr rfl ?_))))))))
               first
               | (refine ⟨_,_,rfl,?_,hR3,hc1.trans (hc2.trans hc3)⟩
                  rw [tN_eq _ _ a,hargs]
                  try rw [good_zero hsz]
                  try rw [good_zero hsy] at *
                  simp only [tNs,ho]
                  simp_all)
               | (refine ⟨_,_,rfl,?_,hR2,hc1.trans hc2⟩
                  rw [tN_eq _ _ a,hargs]
                  try rw [good_zero hsz]
                  try rw [good_zero hsy] at *
                  simp only [tNs,ho]
                  simp_all)
               | (refine ⟨_,_,rfl,?_,hR1,hc1⟩
                  rw [tN_eq _ _ a,hargs]
                  try rw [good_zero hsz]
                  try rw [good_zero hsy] at *
                  simp only [tNs,ho]
                  simp_all)
           ·refine qp rfl (qk (kc rfl (kc rfl (kc rfl (kc rfl (kc rfl kn))))) (kc rfl (kc rfl kn)) (sqn (ecT rfl (eseq (ereg ?_)))))
            have ho:a.op=10:=of_decide_eq_true (by assumption)
            obtain ⟨x,y,z,hargs,hvx,hvy,hvz⟩:=ref_prim hv ho
            refine qp rfl (hlda rfl rfl (lc rfl (lc rfl (ln rfl))) (qp rfl (qp rfl (hia (y:=.agg x.cs) rfl rfl (by omega) (by rw [hargs];simp [Node.enc_eq]) rfl (hlda rfl rfl (lc rfl (lc rfl (lc rfl (lc rfl (lc rfl (ln rfl)))))) (hcall rfl rfl rfl (rhas_c _ c o ix ia X A x 0 (H x (by rw [hargs];simp)) hR hvx) ?_))))))
            rintro _ S1 ⟨rfl,hR1,hc1⟩
            refine qb ?_
            rintro (_ | _) h21
            ·refine qp rfl (qs rfl rfl (by decide) (qs rfl rfl (by decide) (qs rfl rfl (by decide) (qs rfl rfl (by decide) (qs rfl rfl (by decide) (qs rfl rfl (by decide) (qs rfl rfl (by decide) (qp rfl (qp rfl (qs rfl rfl (by decide) (qs rfl rfl (by decide) (qs rfl rfl (by decide) (qs rfl rfl (by decide) (qs rfl rfl (by decide) (qs rfl rfl (by decide) (qs rfl rfl (by decide) (qp rfl (qp rfl (qp rfl (qk (kc rfl (kc rfl kn)) kn (sqn (eret (bqr ?_)))))))))))))))))))))))
             refine sqr (fqr rfl ?_)
             first
             | (refine ⟨_,_,rfl,?_,hR3,hc1.trans (hc2.trans hc3)⟩
                rw [tN_eq _ _ a,hargs]
                simp only [tNs,ho]
                simp_all)
             | (refine ⟨_,_,rfl,?_,hR2,hc1.trans hc2⟩
                rw [tN_eq _ _ a,hargs]
                simp only [tNs,ho]
                simp_all)
             | (refine ⟨_,_,rfl,?_,hR1,hc1⟩
                rw [tN_eq _ _ a,hargs]
                simp only [tNs,ho]
                simp_all)
            ·refine qp rfl (qg rfl (qp rfl (qg rfl (hlda rfl rfl (lc rfl (lc rfl (ln rfl))) (qg rfl (qp rfl (qg rfl (qp rfl (qg rfl (hia (y:=.agg y.cs) rfl rfl (by omega) (by rw [hargs];simp [Node.enc_eq]) rfl (qg rfl (hlda rfl rfl (lc rfl (lc rfl (lc rfl (lc rfl (lc rfl (ln rfl)))))) (qg rfl (hcall rfl rfl rfl (rhas_c _ c o ix ia X A y 0 (H y (by rw [hargs];simp)) hR1 hvy) ?_))))))))))))))
             rintro _ S2 ⟨rfl,hR2,hc2⟩
             refine qb ?_
             rintro (_ | _) h22
             ·refine qp rfl (qp rfl (qs rfl rfl (by decide) (qs rfl rfl (by decide) (qs rfl rfl (by decide) (qs rfl rfl (by decide) (qs rfl rfl (by decide) (qs rfl rfl (by decide) (qs rfl rfl (by decide) (qp rfl (qp rfl (qp rfl (qk (kc rfl (kc rfl kn)) kn (sqn (eret (bqr (sqr (fqr rfl ?_)))))))))))))))))
              first
              | (refine ⟨_,_,rfl,?_,hR3,hc1.trans (hc2.trans hc3)⟩
                 rw [tN_eq _ _ a,hargs]
                 simp only [tNs,ho]
                 simp_all)
              | (refine ⟨_,_,rfl,?_,hR2,hc1.trans hc2⟩
                 rw [tN_eq _ _ a,hargs]
                 simp only [tNs,ho]
                 simp_all)
              | (refine ⟨_,_,rfl,?_,hR1,hc1⟩
                 rw [tN_eq _ _ a,hargs]
                 simp only [tNs,ho]
                 simp_all)
             ·refine qp rfl (qp rfl (qg rfl (qp rfl (qg rfl (hlda rfl rfl (lc rfl (lc rfl (ln rfl))) (qg rfl (qp rfl (qg rfl (qp rfl (qg rfl (hia (y:=.agg z.cs) rfl rfl (by omega) (by rw [hargs];simp [Node.enc_eq]) rfl (qg rfl (hlda rfl rfl (lc rfl (lc rfl (lc rfl (lc rfl (lc rfl (ln rfl)))))) (qg rfl (hcall rfl rfl rfl (rhas_c _ c o ix ia X A z 0 (H z (by rw [hargs];simp)) hR2 hvz) ?_)))))))))))))))
              rintro _ S3 ⟨rfl,hR3,hc3⟩
              refine qp rfl (qp rfl (qp rfl (qk (kc rfl (kc rfl kn)) kn (sqn (eret (bqr (sqr (fqr rfl ?_))))))))
              first
              | (refine ⟨_,_,rfl,?_,hR3,hc1.trans (hc2.trans hc3)⟩
                 rw [tN_eq _ _ a,hargs]
                 simp only [tNs,ho]
                 simp_all)
              | (refine ⟨_,_,rfl,?_,hR2,hc1.trans hc2⟩
                 rw [tN_eq _ _ a,hargs]
                 simp only [tNs,ho]
                 simp_all)
              | (refine ⟨_,_,rfl,?_,hR1,hc1⟩
                 rw [tN_eq _ _ a,hargs]
                 simp only [tNs,ho]
                 simp_all)
          ·refine qp rfl (qk (kc rfl (kc rfl (kc rfl (kc rfl (kc rfl kn))))) (kc rfl (kc rfl kn)) (sqn (ecT rfl (eseq (ereg ?_)))))
           have ho:a.op=9:=of_decide_eq_true (by assumption)
           obtain ⟨x,y,hargs,hvx,hvy⟩:=ref_cut hv ho
           refine qp rfl (hlda rfl rfl (lc rfl (lc rfl (ln rfl))) (qp rfl (qp rfl (hia (y:=.agg x.cs) rfl rfl (by omega) (by rw [hargs];simp [Node.enc_eq]) rfl (hlda rfl rfl (lc rfl (lc rfl (lc rfl (lc rfl (lc rfl (ln rfl)))))) (qp rfl (qp rfl (hcall rfl rfl rfl (rhas_c _ c o ix ia X A x a.ty (H x (by rw [hargs];simp)) hR hvx) ?_))))))))
           rintro _ S1 ⟨rfl,hR1,hc1⟩
           refine qb ?_
           rintro (_ | _) h23
           ·refine qp rfl (qs rfl rfl (by decide) (qs rfl rfl (by decide) (qs rfl rfl (by decide) (qs rfl rfl (by decide) (qs rfl rfl (by decide) (qs rfl rfl (by decide) (qs rfl rfl (by decide) (qs rfl rfl (by decide) (qs rfl rfl (by decide) (qp rfl (qp rfl (qp rfl (qk (kc rfl (kc rfl kn)) kn (sqn (eret (bqr (sqr (fqr rfl ?_))))))))))))))))))
            first
            | (refine ⟨_,_,rfl,?_,hR3,hc1.trans (hc2.trans hc3)⟩
               rw [tN_eq _ _ a,hargs]
               simp only [tNs,ho]
               simp_all)
            | (refine ⟨_,_,rfl,?_,hR2,hc1.trans hc2⟩
               rw [tN_eq _ _ a,hargs]
               simp only [tNs,ho]
               simp_all)
            | (refine ⟨_,_,rfl,?_,hR1,hc1⟩
               rw [tN_eq _ _ a,hargs]
               simp only [tNs,ho]
               simp_all)
           ·refine qp rfl (qg rfl (qp rfl (qg rfl (hlda rfl rfl (lc rfl (lc rfl (ln rfl))) (qg rfl (qp rfl (qg rfl (qp rfl (qg rfl (hia (y:=.agg y.cs) rfl rfl (by omega) (by rw [hargs];simp [Node.enc_eq]) rfl (qg rfl (hlda rfl rfl (lc rfl (lc rfl (lc rfl (lc rfl (lc rfl (ln rfl)))))) (qg rfl (qp rfl (qg rfl (qp rfl (qg rfl (hcall rfl rfl rfl (rhas_c _ c o ix ia X A y a.ty (H y (by rw [hargs];simp)) hR1 hvy) ?_))))))))))))))))))
            rintro _ S2 ⟨rfl,hR2,hc2⟩
            refine qp rfl (qp rfl (qp rfl (qk (kc rfl (kc rfl kn)) kn (sqn (eret (bqr (sqr (fqr rfl ?_))))))))
            first
            | (refine ⟨_,_,rfl,?_,hR3,hc1.trans (hc2.trans hc3)⟩
               rw [tN_eq _ _ a,hargs]
               simp only [tNs,ho]
               simp_all)
            | (refine ⟨_,_,rfl,?_,hR2,hc1.trans hc2⟩
               rw [tN_eq _ _ a,hargs]
               simp only [tNs,ho]
               simp_all)
            | (refine ⟨_,_,rfl,?_,hR1,hc1⟩
               rw [tN_eq _ _ a,hargs]
               simp only [tNs,ho]
               simp_all)
   ·refine qp rfl (qk (kc rfl (kc rfl (kc rfl (kc rfl (kc rfl kn))))) (kc rfl (kc rfl kn)) (sqn (ecT rfl (eseq (ereg (qp rfl (qp rfl (qk (kc rfl (kc rfl kn)) kn (sqn (eret (bqr (sqr (fqr rfl ?_)))))))))))))
    have ho:a.op=1:=of_decide_eq_true (by assumption)
    refine ⟨0,true,rfl,?_,hR,Chg.refl _⟩
    rw [tN_eq _ _ a]
    simp [ho]
  ·refine qp rfl (qk (kc rfl (kc rfl (kc rfl (kc rfl (kc rfl kn))))) (kc rfl (kc rfl kn)) (sqn (ecT rfl (eseq (ereg (qp rfl (qp rfl (qp rfl (hldo rfl hR.hO rfl ?_)))))))))
   refine qp rfl (qp rfl (hlk (m:=tyM A) rfl rfl rfl hR.h1 ?_))
   rw [tyM_get]
   refine qp rfl (qp rfl (qk (kc rfl (kc rfl kn)) kn (sqn (eret (bqr (sqr (fqr rfl ?_)))))))
   have ho:a.op=5:=of_decide_eq_true (by assumption)
   have hx0:(A a.n).isSome=true:=by
    obtain ⟨w,q,hh,_,_,hvv⟩:=vN_some hv
    simp only [ho] at hvv
    simpa [dom] using hvv
   obtain ⟨t,ht⟩:=Option.isSome_iff_exists.1 hx0
   refine ⟨_,true,rfl,?_,hR,Chg.refl _⟩
   rw [tN_eq _ _ a,ht]
   simp [ho,ht]
 ·refine qp rfl (qk (kc rfl (kc rfl (kc rfl (kc rfl (kc rfl kn))))) (kc rfl (kc rfl kn)) (sqn (ecT rfl (eseq (ereg (qp rfl (qp rfl (qp rfl (hldo rfl hR.hO rfl ?_)))))))))
  refine qp rfl (qp rfl (hlk (m:=tyM X) rfl rfl rfl hR.h0 ?_))
  rw [tyM_get]
  refine qp rfl (qp rfl (qk (kc rfl (kc rfl kn)) kn (sqn (eret (bqr (sqr (fqr rfl ?_)))))))
  have ho:a.op=0:=of_decide_eq_true (by assumption)
  have hx0:(X a.n).isSome=true:=by
   obtain ⟨w,q,hh,_,_,hvv⟩:=vN_some hv
   simp only [ho] at hvv
   simpa [dom] using hvv
  obtain ⟨t,ht⟩:=Option.isSome_iff_exists.1 hx0
  refine ⟨_,true,rfl,?_,hR,Chg.refl _⟩
  rw [tN_eq _ _ a,ht]
  simp [ho,ht]
theorem rtype_c (c:Core) (hc:CoreSz c) (a:Node):a.sz ≤ 2 ^ 40 → RC c a:=by
 induction a using Node.ind with
 | h a h1 h2 =>
   intro hz s o ix ia X A hR hv
   exact rtype_c0 s c hc o ix ia X A a hz (fun b hb=>h1 b hb (by have:=Node.sz_arg hb;omega)) (fun b hb=>h2 b hb (by have:=Node.sz_br hb;have:=b.sz_body;omega)) hR hv
end Go.Sim.Kd
namespace Go.Sim.Kd
open Go Go.Sim
theorem rNS_l1 {o ix ia:Nat} (l ts:List Int) (hlen:l.length=ts.length) (X A:Int → Option Int) (i:Nat) (hi:i ≤ l.length) (hs:l.length ≤ 2 ^ 40) {x2 x3:AV} {n:Nat} {v:Nat → Bool} {D:List (Nat × List AV)} {S:Sg} {Q:Ex → Fr → Prop}
 (hR:RT o ix ia X A S) (hX:∀ j S',RT o ix ia (bindL X (l.drop i) (ts.drop i)) A S' → Chg (IXA ix ia) S S' → Q (.exit 0) ⟨upd (upd (upd (upd (upd (upd (upd (upd ((fun _=>none)) 21 (some (.val (B false)))) 20 (some (.val (I j)))) 19 (some (.val (I (l.map I).length)))) 18 (some (.val (.slice .none 1 (l.map I))))) 9 (some (.val (.ptr o 0)))) 3 (some (.val x3))) 2 (some (.val x2))) 1 (some (.val (ints ts))),(fun _=>none),n,v,D,S'⟩):EX (callL p) (.loop F18_l1) ⟨upd (upd (upd (upd (upd (upd (upd ((fun _=>none)) 20 (some (.val (I i)))) 19 (some (.val (I (l.map I).length)))) 18 (some (.val (.slice .none 1 (l.map I))))) 9 (some (.val (.ptr o 0)))) 3 (some (.val x3))) 2 (some (.val x2))) 1 (some (.val (ints ts))),(fun _=>none),n,v,D,S⟩ Q:=by
 refine eloop (eseq (ereg (qp rfl (qb ?_))))
 rintro (_ | _) h1
 ·refine qk (kc rfl (kc rfl (kc rfl (kc rfl (kc rfl (kc rfl (kc rfl (kc rfl kn)))))))) kn (sqn (eseq (ecF rfl (eexit (sqx ?_)))))
  exact hX _ _ (by rw [List.drop_eq_nil_of_le (by simp at h1 ⊢;omega)];simpa [bindL] using hR) (Chg.refl _)
 ·refine qk (kc rfl (kc rfl (kc rfl (kc rfl (kc rfl (kc rfl (kc rfl (kc rfl kn)))))))) kn (sqn (eseq (ecT rfl (eskip (sqn (eseq (eblock (eseq (ereg (qp rfl ?_))))))))))
  have hlt:i < l.length:=by simpa using h1
  obtain ⟨a,ha⟩:=get_of_lt hlt
  have hd:=drop_cons ha
  refine hia (y:=I a) rfl rfl (by omega) (by simp [ha]) rfl (qp rfl (qp rfl (qp rfl (qk (kc rfl (kc rfl (kc rfl (kc rfl (kc rfl (kc rfl (kc rfl (kc rfl (kc rfl kn))))))))) kn (sqn (ereg (qp rfl (qp rfl (qp rfl (hldo rfl hR.hO rfl ?_))))))))))
  refine qp rfl (qp rfl (qp rfl ?_))
  obtain ⟨t,ht⟩:=get_of_lt (l:=ts) (i:=i) (by omega)
  have ht2:=drop_cons ht
  refine hia (y:=I t) rfl rfl (by omega) (by simp [ht]) rfl (qp rfl (hmu (m:=tyM X) rfl rfl rfl rfl hR.h0 ?_))
  rw [show (AV.lit (.int .i64 t)).er=I t from rfl,tyM_set]
  refine qk (kc rfl (kc rfl (kc rfl (kc rfl (kc rfl (kc rfl (kc rfl kn))))))) kn (bqn (sqn (ereg (hadd rfl rfl (i64w (by omega)) (qp rfl (qk (kc rfl (kc rfl (kc rfl (kc rfl (kc rfl (kc rfl (kc rfl kn))))))) kn ?_))))))
  exact rNS_l1 l ts hlen _ A (i + 1) (by omega) hs (hR.set0 _) (fun j S' h c2=>hX j S' (by rw [hd,ht2];exact h) (((Chg.refl S).set fun _=>.inl rfl).trans c2))
termination_by l.length - i
decreasing_by all_goals omega
theorem rNS_l2 {o ix ia:Nat} (l ts:List Int) (hlen:l.length=ts.length) (X A:Int → Option Int) (i:Nat) (hi:i ≤ l.length) (hs:l.length ≤ 2 ^ 40) {n:Nat} {v:Nat → Bool} {D:List (Nat × List AV)} {S:Sg} {Q:Ex → Fr → Prop}
 (hR:RT o ix ia X A S) (hX:∀ j S',RT o ix ia X (bindL A (l.drop i) (ts.drop i)) S' → Chg (IXA ix ia) S S' → Q (.exit 2) ⟨upd (upd (upd (upd (upd (upd ((fun _=>none)) 38 (some (.val (B false)))) 37 (some (.val (I j)))) 36 (some (.val (I (l.map I).length)))) 35 (some (.val (.slice .none 1 (l.map I))))) 9 (some (.val (.ptr o 0)))) 3 (some (.val (ints ts))),(fun _=>none),n,v,D,S'⟩):EX (callL p) (.loop F18_l2) ⟨upd (upd (upd (upd (upd ((fun _=>none)) 37 (some (.val (I i)))) 36 (some (.val (I (l.map I).length)))) 35 (some (.val (.slice .none 1 (l.map I))))) 9 (some (.val (.ptr o 0)))) 3 (some (.val (ints ts))),(fun _=>none),n,v,D,S⟩ Q:=by
 refine eloop (eseq (ereg (qp rfl (qb ?_))))
 rintro (_ | _) h1
 ·refine qk (kc rfl (kc rfl (kc rfl (kc rfl (kc rfl (kc rfl kn)))))) kn (sqn (eseq (ecF rfl (eexit (sqx ?_)))))
  exact hX _ _ (by rw [List.drop_eq_nil_of_le (by simp at h1 ⊢;omega)];simpa [bindL] using hR) (Chg.refl _)
 ·refine qk (kc rfl (kc rfl (kc rfl (kc rfl (kc rfl (kc rfl kn)))))) kn (sqn (eseq (ecT rfl (eskip (sqn (eseq (eblock (eseq (ereg (qp rfl ?_))))))))))
  have hlt:i < l.length:=by simpa using h1
  obtain ⟨a,ha⟩:=get_of_lt hlt
  have hd:=drop_cons ha
  refine hia (y:=I a) rfl rfl (by omega) (by simp [ha]) rfl (qp rfl (qp rfl (qp rfl (qk (kc rfl (kc rfl (kc rfl (kc rfl (kc rfl (kc rfl (kc rfl kn))))))) kn (sqn (ereg (qp rfl (qp rfl (qp rfl (hldo rfl hR.hO rfl ?_))))))))))
  refine qp rfl (qp rfl (qp rfl ?_))
  obtain ⟨t,ht⟩:=get_of_lt (l:=ts) (i:=i) (by omega)
  have ht2:=drop_cons ht
  refine hia (y:=I t) rfl rfl (by omega) (by simp [ht]) rfl (qp rfl (hmu (m:=tyM A) rfl rfl rfl rfl hR.h1 ?_))
  rw [show (AV.lit (.int .i64 t)).er=I t from rfl,tyM_set]
  refine qk (kc rfl (kc rfl (kc rfl (kc rfl (kc rfl kn))))) kn (bqn (sqn (ereg (hadd rfl rfl (i64w (by omega)) (qp rfl (qk (kc rfl (kc rfl (kc rfl (kc rfl (kc rfl kn))))) kn ?_))))))
  exact rNS_l2 l ts hlen X _ (i + 1) (by omega) hs (hR.set1 _) (fun j S' h c2=>hX j S' (by rw [hd,ht2];exact h) (((Chg.refl S).set fun _=>.inr rfl).trans c2))
termination_by l.length - i
decreasing_by all_goals omega
theorem rt_init (s:Sg):RT (s.nx + 2) s.nx (s.nx + 1) (fun _=>none) (fun _=>none) (((s.new (.map (.int .i64) fun _=>none)).new (.map (.int .i64) fun _=>none)).new (.row [.map s.nx,.map (s.nx + 1)])):=by
 refine ⟨new_ob,?_,?_,?_,?_,?_,by omega,by omega,by omega⟩
 ·rw [new_lt (by show s.nx < s.nx + 2;omega),new_lt (by show s.nx < s.nx + 1;omega),tyM_nil];exact new_ob
 ·rw [new_lt (by show s.nx + 1 < s.nx + 2;omega),tyM_nil];exact new_ob
 ·show s.nx + 2 < s.nx + 3;omega
 ·show s.nx < s.nx + 3;omega
 ·show s.nx + 1 < s.nx + 3;omega
theorem rNew_c (s:Sg) (xs g0 as g1:List Int) (h0:xs.length ≤ 2 ^ 40) (h1:as.length ≤ 2 ^ 40) (hl0:xs.length=g0.length) (hl1:as.length=g1.length):HC p N18_ [ints xs,ints g0,ints as,ints g1] s (fun r s'=>∃ o ix ia,r=[.ptr o 0] ∧ RT o ix ia (bindL (fun _=>none) xs g0) (bindL (fun _=>none) as g1) s' ∧ Ext s s' ∧ s.nx ≤ o ∧ s.nx ≤ ix ∧ s.nx ≤ ia):=by
 refine hcf rfl f18_ rfl ?_
 simp only [chainOf]
 refine eseq (ereg (qp rfl (qk (kc rfl (kc rfl (kc rfl (kc rfl kn)))) kn (sqn (eseq (ereg (hmkm (hmkm (hbuild rfl rfl (lc rfl (lc rfl (ln rfl))) (hboxo rfl (lc rfl (lc rfl (ln rfl))) (qp rfl (qk (kc rfl (kc rfl (kc rfl (kc rfl (kc rfl kn))))) kn (sqn (eseq (eseq (ereg (qp rfl (qp rfl (qp rfl (qk (kc rfl (kc rfl (kc rfl (kc rfl (kc rfl (kc rfl (kc rfl kn))))))) kn (sqn (eblock (rNS_l1 xs g0 hl0 _ _ 0 (by omega) h0 (rt_init s) ?_)))))))))))))))))))))))
 ·intro j S1 hR1 hc1
  refine bqx (sqn (eseq (eseq (ereg (qp rfl (qp rfl (qp rfl (qk (kc rfl (kc rfl (kc rfl (kc rfl (kc rfl kn))))) kn (sqn (eblock (rNS_l2 as g1 hl1 _ _ 0 (by omega) h1 hR1 ?_)))))))))))
  ·intro j2 S2 hR2 hc2
   refine bqx (sqn (eseq (ereg (qp rfl (qp rfl (qk (kc rfl kn) kn (sqn (eret (fqr rfl ?_)))))))))
   exact ⟨_,_,_,rfl,hR2,((Chg.new (Chg.new (Chg.new (Chg.refl s)))).trans (hc1.trans hc2)).ext fun i h=>by rcases h with h | h <;> omega,by show s.nx ≤ s.nx + 2;omega,Nat.le_refl _,by omega⟩
theorem rPar_l {o ix ia:Nat} (g:CFun) (l:List Arg) (hlen:g.vars.length=l.length) (hlv:l.length ≤ 2 ^ 40) (X A:Int → Option Int) (i:Nat) (hi:i ≤ l.length) (hs:l.length ≤ 2 ^ 40) {n:Nat} {v:Nat → Bool} {D:List (Nat × List AV)} {S:Sg} {Q:Ex → Fr → Prop}
 (hR:RT o ix ia X A S) (hX:∀ j S',RT o ix ia (bindsT false X (g.vars.drop i) (l.drop i)) (bindsT true A (g.vars.drop i) (l.drop i)) S' → Chg (IXA ix ia) S S' → Q (.exit 0) ⟨upd (upd (upd (upd (upd (upd ((fun _=>none)) 11 (some (.val (B false)))) 10 (some (.val (I j)))) 9 (some (.val (I (l.map Arg.enc).length)))) 8 (some (.val (.slice .none 2 (l.map Arg.enc))))) 3 (some (.val (.ptr o 0)))) 1 (some (.loc 1 0)),upd ((fun _=>none)) 1 (some ((Str g.name :: encArgs g.params :: ints g.vars :: g.body.cs))),n,v,D,S'⟩):EX (callL p) (.loop F51_l1) ⟨upd (upd (upd (upd (upd ((fun _=>none)) 10 (some (.val (I i)))) 9 (some (.val (I (l.map Arg.enc).length)))) 8 (some (.val (.slice .none 2 (l.map Arg.enc))))) 3 (some (.val (.ptr o 0)))) 1 (some (.loc 1 0)),upd ((fun _=>none)) 1 (some ((Str g.name :: encArgs g.params :: ints g.vars :: g.body.cs))),n,v,D,S⟩ Q:=by
 refine eloop (eseq (ereg (qp rfl (qb ?_))))
 rintro (_ | _) h1
 ·refine qk (kc rfl (kc rfl (kc rfl (kc rfl (kc rfl (kc rfl kn)))))) (kc rfl kn) (sqn (eseq (ecF rfl (eexit (sqx ?_)))))
  exact hX _ _ (by rw [List.drop_eq_nil_of_le (as:=l) (by simp at h1 ⊢;omega),List.drop_eq_nil_of_le (as:=g.vars) (by simp at h1 ⊢;omega)];simpa [bindsT] using hR) (Chg.refl _)
 ·refine qk (kc rfl (kc rfl (kc rfl (kc rfl (kc rfl (kc rfl kn)))))) (kc rfl kn) (sqn (eseq (ecT rfl (eskip (sqn (eseq (eblock (eseq (ereg (qp rfl ?_))))))))))
  have hlt:i < l.length:=by simpa using h1
  obtain ⟨a,ha⟩:=get_of_lt hlt
  have hd:=drop_cons ha
  refine hia (y:=Arg.enc a) rfl rfl (by omega) (by simp [ha]) rfl (hlda rfl rfl (lc rfl (lc rfl (ln rfl))) (hal (dc (dc (dc (dc (dc (dc (dc (dc (dc dn rfl) rfl) rfl) rfl) rfl) rfl) rfl) rfl) rfl) (qp rfl (hstl rfl rfl rfl rfl (Nat.le_of_ble_eq_true rfl) (lc rfl (lc rfl (ln rfl))) (qk (kc rfl (kc rfl (kc rfl (kc rfl (kc rfl (kc rfl (kc rfl kn))))))) (kc rfl (kc rfl kn)) (sqn (ereg (qp rfl (qp rfl (qp rfl (qp rfl (qp rfl (qp rfl ?_)))))))))))))
  obtain ⟨x,hx⟩:=get_of_lt (l:=g.vars) (i:=i) (by omega)
  have hx2:=drop_cons hx
  refine hia (y:=I x) rfl rfl (by omega) (by simp [hx]) rfl (qp rfl (qp rfl (qp rfl (hcall rfl rfl rfl (rbind_c _ o ix ia X A a.co x a.ty hR) ?_))))
  rintro _ S1 ⟨rfl,hR1,hc1⟩
  refine qk (kc rfl (kc rfl (kc rfl (kc rfl (kc rfl kn))))) (kc rfl kn) (bqn (sqn (ereg (hadd rfl rfl (i64w (by omega)) (qp rfl (qk (kc rfl (kc rfl (kc rfl (kc rfl (kc rfl kn))))) (kc rfl kn) ?_))))))
  exact rPar_l g l hlen hlv _ _ (i + 1) (by omega) hs hR1 (fun j S' h c2=>hX j S' (by rw [hd,hx2];simp only [bindsT];exact h) (hc1.trans c2))
termination_by l.length - i
decreasing_by all_goals omega
theorem rPar_c (s:Sg) (g:CFun) (hlen:g.vars.length=g.params.length) (hz:g.params.length ≤ 2 ^ 40):HC p N51_ [.agg (Str g.name :: encArgs g.params :: ints g.vars :: g.body.cs)] s (fun r s'=>∃ o ix ia,r=[.ptr o 0] ∧ RT o ix ia (bindsT false (fun _=>none) g.vars g.params) (bindsT true (fun _=>none) g.vars g.params) s' ∧ Ext s s' ∧ s.nx ≤ o ∧ s.nx ≤ ix ∧ s.nx ≤ ia):=by
 refine hcf rfl f51_ rfl ?_
 simp only [chainOf]
 refine eseq (ereg (hbox (dc dn rfl) rfl (lc rfl (lc rfl (lc rfl (lc rfl (lc rfl (lc rfl (lc rfl (lc rfl (ln rfl))))))))) (qp rfl (qk (kc rfl kn) (kc rfl kn) (sqn (eseq (ereg (hcall rfl rfl rfl (rNew_c _ [] [] [] [] (by simp) (by simp) rfl rfl) ?_))))))))
 rintro _ S1 ⟨o,ix,ia,rfl,hR1,hx1,ho,hx,ha⟩
 refine qp rfl (qk (kc rfl (kc rfl kn)) (kc rfl kn) (sqn (eseq (eseq (ereg (qp rfl (qp rfl (qp rfl (qp rfl (qk (kc rfl (kc rfl (kc rfl (kc rfl (kc rfl kn))))) (kc rfl kn) (sqn (eblock (rPar_l g g.params hlen hz _ _ 0 (by omega) hz hR1 ?_)))))))))))))
 ·intro j S2 hR2 hc2
  rw [List.drop_zero,List.drop_zero] at hR2
  refine bqx (sqn (eseq (ereg (qp rfl (qp rfl (qk (kc rfl kn) kn (sqn (eret (fqr rfl ?_)))))))))
  exact ⟨_,_,_,rfl,hR2,(hx1.chg.trans hc2).ext (fun i h=>by rcases h with h | h <;> omega),ho,hx,ha⟩
theorem rIs_l (c:Core) (hc:CoreSz c) (hok:coreOk c=true) (l:List CFun) (hl:∀ g ∈ l,g ∈ c.funs) (hbz:∀ g ∈ c.funs,g.body.sz ≤ 2 ^ 40) (i:Nat) (hi:i ≤ l.length) (hs:l.length ≤ 2 ^ 40) {n:Nat} {v:Nat → Bool} {D:List (Nat × List AV)} {S:Sg} {Q:Ex → Fr → Prop}
 (hX:∀ j S',(l.drop i).all (funT c)=true → Ext S S' → Q (.exit 0) ⟨upd (upd (upd (upd (upd ((fun _=>none)) 9 (some (.val (B false)))) 8 (some (.val (I j)))) 7 (some (.val (I (l.map CFun.enc).length)))) 6 (some (.val (.slice .none 8 (l.map CFun.enc))))) 1 (some (.loc 1 0)),upd ((fun _=>none)) 1 (some (Core.cs c)),n,v,D,S'⟩) (hR:∀ S',(l.drop i).all (funT c)=false → Ext S S' → Q .ret ⟨upd ((fun _=>none)) 2 (some (.val (B false))),(fun _=>none),n,v,D,S'⟩):EX (callL p) (.loop F14_l1) ⟨upd (upd (upd (upd ((fun _=>none)) 8 (some (.val (I i)))) 7 (some (.val (I (l.map CFun.enc).length)))) 6 (some (.val (.slice .none 8 (l.map CFun.enc))))) 1 (some (.loc 1 0)),upd ((fun _=>none)) 1 (some (Core.cs c)),n,v,D,S⟩ Q:=by
 refine eloop (eseq (ereg (qp rfl (qb ?_))))
 rintro (_ | _) h1
 ·refine qk (kc rfl (kc rfl (kc rfl (kc rfl (kc rfl kn))))) (kc rfl kn) (sqn (eseq (ecF rfl (eexit (sqx ?_)))))
  exact hX _ _ (by rw [List.drop_eq_nil_of_le (by simp at h1 ⊢;omega)];rfl) (Ext.refl _)
 ·refine qk (kc rfl (kc rfl (kc rfl (kc rfl (kc rfl kn))))) (kc rfl kn) (sqn (eseq (ecT rfl (eskip (sqn (eseq (eblock (eseq (ereg ?_)))))))))
  have hlt:i < l.length:=by simpa using h1
  obtain ⟨a,ha⟩:=get_of_lt hlt
  have hd:=drop_cons ha
  refine hia (y:=.agg (Str a.name :: encArgs a.params :: ints a.vars :: a.body.cs)) rfl rfl (by omega) (by simp [ha,Node.enc_eq,Br.enc_eq,CFun.enc_eq]) rfl (hlda rfl rfl (lc rfl (lc rfl (lc rfl (lc rfl (lc rfl (lc rfl (lc rfl (lc rfl (ln rfl))))))))) (hal (dc (dc (dc (dc (dc (dc (dc dn rfl) rfl) rfl) rfl) rfl) rfl) rfl) (hstl rfl rfl rfl rfl (Nat.le_of_ble_eq_true rfl) (lc rfl (lc rfl (lc rfl (lc rfl (lc rfl (lc rfl (lc rfl (lc rfl (ln rfl))))))))) (qk (kc rfl (kc rfl (kc rfl (kc rfl (kc rfl kn))))) (kc rfl (kc rfl kn)) (sqn (eseq (ereg (hlda rfl rfl (lc rfl (lc rfl (lc rfl (lc rfl (lc rfl (lc rfl (lc rfl (lc rfl (ln rfl))))))))) (hcall rfl rfl rfl (rPar_c _ a (core_body hok a (hl a (List.mem_of_getElem? ha))).1 (hc.ga a (hl a (List.mem_of_getElem? ha)))) ?_)))))))))
  rintro _ S1 ⟨o,ix,ia,rfl,hR1,hx1,ho,hx,hia⟩
  have hb:=core_body hok a (hl a (List.mem_of_getElem? ha))
  refine hlda rfl rfl (lc rfl (lc rfl (ln rfl))) (qp rfl (hlda rfl rfl (lc rfl (lc rfl (lc rfl (lc rfl (lc rfl (ln rfl)))))) (hcall rfl rfl rfl (rgood_c _ c o ix ia _ _ a.body (rtype_c c hc a.body (hbz a (hl a (List.mem_of_getElem? ha)))) hR1 hb.2.2.2) ?_)))
  rintro _ S3 ⟨rfl,hR3,hc3⟩
  have hx3:Ext S S3:=(hx1.chg.trans hc3).ext fun i h=>by rcases h with h | h <;> omega
  refine qb ?_
  rintro (_ | _) h2
  ·refine qp rfl (qk (kc rfl (kc rfl (kc rfl (kc rfl (kc rfl kn))))) (kc rfl kn) (sqn (ecT rfl (eseq (ereg (qp rfl (qk (kc rfl kn) kn (sqn (eret (bqr (sqr ?_)))))))))))
   have e:funT c a=false:=by assumption
   exact hR _ (by rw [hd,List.all_cons,e,Bool.false_and]) hx3
  ·refine qp rfl (qk (kc rfl (kc rfl (kc rfl (kc rfl (kc rfl kn))))) (kc rfl kn) (sqn (ecF rfl (eskip (bqn (sqn (ereg (hadd rfl rfl (i64w (by omega)) (qp rfl (qk (kc rfl (kc rfl (kc rfl (kc rfl kn)))) (kc rfl kn) ?_))))))))))
   have e:funT c a=true:=by assumption
   exact rIs_l c hc hok l hl hbz (i + 1) (by omega) hs (fun j S' h x=>hX j S' (by rw [hd,List.all_cons,e,h];rfl) (hx3.trans x)) (fun S' h x=>hR S' (by rw [hd,List.all_cons,h,Bool.and_false]) (hx3.trans x))
termination_by l.length - i
decreasing_by all_goals omega
theorem rIs_c (s:Sg) (c:Core) (hc:CoreSz c) (hok:coreOk c=true) (hbz:∀ g ∈ c.funs,g.body.sz ≤ 2 ^ 40) (hfl:c.funs.length ≤ 2 ^ 40):HC p N14_ [.agg (Core.cs c)] s (fun r s'=>r=[B (typedOk2 c)] ∧ Ext s s'):=by
 refine hcf rfl f14_ rfl ?_
 simp only [chainOf]
 refine eseq (ereg (hbox (dc dn rfl) rfl (lc rfl (lc rfl (ln rfl))) (qp rfl (qk (kc rfl kn) (kc rfl kn) (sqn (eseq (eseq (ereg (qp rfl (qp rfl (qp rfl (qp rfl (qk (kc rfl (kc rfl (kc rfl (kc rfl kn)))) (kc rfl kn) (sqn (eblock ?_)))))))))))))))
 refine rIs_l c hc hok c.funs (fun _ h=>h) hbz 0 (by omega) hfl ?_ ?_
 ·intro j S1 hj hx
  refine bqx (sqn (eseq (ereg (qp rfl (qk (kc rfl kn) kn (sqn (eret (fqr rfl ?_))))))))
  refine ⟨?_,hx⟩
  unfold typedOk2
  rw [List.drop_zero] at hj
  rw [hj];rfl
 ·intro S1 hj hx
  refine bqr (sqr (fqr rfl ?_))
  refine ⟨?_,hx⟩
  unfold typedOk2
  rw [List.drop_zero] at hj
  rw [hj];rfl
end Go.Sim.Kd
namespace Go.Sim.Kd
open Go Go.Sim
structure SzC (c:Core):Prop where
 z:c.sz ≤ 2 ^ 40
 hc:CoreSz c
 fv:∀ g ∈ c.funs,g.vars.length ≤ 2 ^ 40
 bz:∀ g ∈ c.funs,g.body.sz ≤ 2 ^ 40
 fl:c.funs.length ≤ 2 ^ 40
 fz:szL CFun.sz c.funs ≤ 2 ^ 40
theorem SzC.of {c:Core} (h:c.sz ≤ 2 ^ 40):SzC c:=by
 unfold Core.sz at h
 have hd:c.decls.length ≤ szL Decl.sz c.decls:=szL_len fun d=>by unfold Decl.sz;omega
 have hf:c.funs.length ≤ szL CFun.sz c.funs:=szL_len CFun.sz_pos
 have hg:∀ g ∈ c.funs,g.sz ≤ 2 ^ 40:=fun g hg=>by have:=szL_mem (f:=CFun.sz) hg;omega
 refine ⟨by unfold Core.sz;omega,⟨by omega,fun d hd x hx=>?_,fun g hg'=>?_⟩,fun g hg'=>?_,fun g hg'=>?_,by omega,by omega⟩
 ·have h1:=szL_mem (f:=Decl.sz) hd
  have h2:=szL_mem (f:=Xtor.sz) hx
  have e1:d.sz=1 + d.name.size + szL Xtor.sz d.xtors:=rfl
  have e2:x.sz=1 + x.name.size + x.args.length:=rfl
  omega
 ·have:=hg g hg';unfold CFun.sz at this;omega
 ·have:=hg g hg';unfold CFun.sz at this;omega
 ·have:=hg g hg';unfold CFun.sz at this;omega
theorem QOK.ext {s s':Sg} (h:QOK s) (e:Ext s s'):QOK s':=by
 unfold QOK
 rw [e.Q]
 exact h
theorem setL_any:∀ (l:List Int) (X:Int → Bool) (n:Int),setL X l n=(X n || l.any fun v=>decide (n=v))
 | [],X,n=>by simp [setL]
 | v :: l,X,n=>by
   rw [setL,setL_any l]
   simp only [addV,List.any_cons]
   cases decide (n=v) <;> cases X n <;> simp
theorem addAll_set (l:List Int):pos (addAll (fun _=>0) l)=setL (fun _=>false) l:=by
 funext n
 rw [addAll_pos _ Bn_zero,setL_any]
 simp [pos]
theorem right_l (c:Core) (l:List Int) (i:Nat) (hi:i ≤ l.length) (hs:l.length ≤ 2 ^ 40) {n:Nat} {v:Nat → Bool} {D:List (Nat × List AV)} {S:Sg} {Q:Ex → Fr → Prop}
 (hX:∀ j,(l.drop i).all (inR c)=true → Q (.exit 0) ⟨upd (upd (upd (upd (upd ((fun _=>none)) 10 (some (.val (B false)))) 9 (some (.val (I j)))) 8 (some (.val (I (l.map I).length)))) 7 (some (.val (.slice .none 1 (l.map I))))) 2 (some (.loc 2 0)),upd ((fun _=>none)) 2 (some (Core.cs c)),n,v,D,S⟩) (hR:(l.drop i).all (inR c)=false → Q .ret ⟨upd ((fun _=>none)) 4 (some (.val (B false))),(fun _=>none),n,v,D,S⟩):EX (callL p) (.loop F58_l1) ⟨upd (upd (upd (upd ((fun _=>none)) 9 (some (.val (I i)))) 8 (some (.val (I (l.map I).length)))) 7 (some (.val (.slice .none 1 (l.map I))))) 2 (some (.loc 2 0)),upd ((fun _=>none)) 2 (some (Core.cs c)),n,v,D,S⟩ Q:=by
 refine eloop (eseq (ereg (qp rfl (qb ?_))))
 rintro (_ | _) h1
 ·refine qk (kc rfl (kc rfl (kc rfl (kc rfl (kc rfl kn))))) (kc rfl kn) (sqn (eseq (ecF rfl (eexit (sqx ?_)))))
  exact hX _ (by rw [List.drop_eq_nil_of_le (by simp at h1 ⊢;omega)];rfl)
 ·refine qk (kc rfl (kc rfl (kc rfl (kc rfl (kc rfl kn))))) (kc rfl kn) (sqn (eseq (ecT rfl (eskip (sqn (eseq (eblock (eseq (ereg ?_)))))))))
  have hlt:i < l.length:=by simpa using h1
  obtain ⟨a,ha⟩:=get_of_lt hlt
  have hd:=drop_cons ha
  refine hia (y:=I a) rfl rfl (by omega) (by simp [ha]) rfl (qp rfl (qp rfl (qk (kc rfl (kc rfl (kc rfl (kc rfl (kc rfl kn))))) (kc rfl kn) (sqn (eseq (ereg (qp rfl (qp rfl (qb ?_)))))))))
  rintro (_ | _) h2
  ·refine qp rfl (qg rfl (qp rfl (qg rfl (qp rfl (qg rfl (qp rfl (qg rfl (qp rfl (qg rfl (qp rfl (qb ?_)))))))))))
   rintro (_ | _) h3
   ·refine qp rfl (qk (kc rfl (kc rfl (kc rfl (kc rfl (kc rfl kn))))) (kc rfl kn) (sqn (ecF rfl (eskip (bqn (sqn (ereg (hadd rfl rfl (i64w (by omega)) (qp rfl (qk (kc rfl (kc rfl (kc rfl (kc rfl kn)))) (kc rfl kn) ?_))))))))))
    have e:inR c a=true:=by
     clear hX hR
     simp_all [inR]
    exact right_l c l (i + 1) (by omega) hs (fun j h=>hX j (by rw [hd,List.all_cons,e,h];rfl)) (fun h=>hR (by rw [hd,List.all_cons,h,Bool.and_false]))
   ·refine qp rfl (qk (kc rfl (kc rfl (kc rfl (kc rfl (kc rfl kn))))) (kc rfl kn) (sqn (ecT rfl (eseq (ereg (qp rfl (qk (kc rfl kn) kn (sqn (eret (bqr (sqr ?_)))))))))))
    have e:inR c a=false:=by
     clear hX hR
     simp_all [inR] <;> omega
    exact hR (by rw [hd,List.all_cons,e,Bool.false_and])
  ·refine qp rfl (qs rfl rfl (by decide) (qs rfl rfl (by decide) (qs rfl rfl (by decide) (qs rfl rfl (by decide) (qs rfl rfl (by decide) (qp rfl (qk (kc rfl (kc rfl (kc rfl (kc rfl (kc rfl kn))))) (kc rfl kn) (sqn (ecT rfl (eseq (ereg (qp rfl (qk (kc rfl kn) kn (sqn (eret (bqr (sqr ?_)))))))))))))))))
   have e:inR c a=false:=by
    clear hX hR
    simp_all [inR] <;> omega
   exact hR (by rw [hd,List.all_cons,e,Bool.false_and])
termination_by l.length - i
decreasing_by all_goals omega
theorem right_c (s:Sg) (c:Core) (l:List Int) (hz:l.length ≤ 2 ^ 40):HC p N58_ [.agg (Core.cs c),ints l] s (fun r s'=>r=[B (l.all (inR c))] ∧ s'=s):=by
 refine hcf rfl f58_ rfl ?_
 simp only [chainOf]
 refine eseq (ereg (hbox (dc (dc dn rfl) rfl) rfl (lc rfl (lc rfl (ln rfl))) (qp rfl (qk (kc rfl (kc rfl kn)) (kc rfl kn) (sqn (eseq (eseq (ereg (qp rfl (qp rfl (qp rfl (qk (kc rfl (kc rfl (kc rfl (kc rfl kn)))) (kc rfl kn) (sqn (eblock ?_))))))))))))))
 refine right_l c l 0 (by omega) hz ?_ ?_
 ·intro j hj
  refine bqx (sqn (eseq (ereg (qp rfl (qk (kc rfl kn) kn (sqn (eret (fqr rfl ?_))))))))
  rw [List.drop_zero] at hj
  exact ⟨by rw [hj];rfl,rfl⟩
 ·intro hj
  refine bqr (sqr (fqr rfl ?_))
  rw [List.drop_zero] at hj
  exact ⟨by rw [hj];rfl,rfl⟩
theorem asked_c (s:Sg) (c:Core) (hc:SzC c) (xs as g0 g1:List Int) (nd:Node) (h1x:xs.length ≤ 2 ^ 40) (h1a:as.length ≤ 2 ^ 40) (h10:g0.length ≤ 2 ^ 40) (h11:g1.length ≤ 2 ^ 40) (hz:nd.sz ≤ 2 ^ 40):HC p N17_ [.agg (Core.cs c),ints xs,ints as,.agg [ints g0,ints g1],.agg nd.cs] s (fun r s'=>r=[B (askB c xs as g0 g1 nd)] ∧ Ext s s'):=by
 refine hcf rfl f17_ rfl ?_
 simp only [chainOf]
 refine eseq (ereg (hbox (dc (dc (dc (dc (dc dn rfl) rfl) rfl) rfl) rfl) rfl (lc rfl (lc rfl (ln rfl))) (hbox (dc (dc (dc (dc (dc (dc dn rfl) rfl) rfl) rfl) rfl) rfl) rfl (lc rfl (lc rfl (ln rfl))) (hbox (dc (dc (dc (dc (dc (dc (dc dn rfl) rfl) rfl) rfl) rfl) rfl) rfl) rfl (lc rfl (lc rfl (lc rfl (lc rfl (lc rfl (ln rfl)))))) (qp rfl (qk (kc rfl (kc rfl (kc rfl (kc rfl (kc rfl kn))))) (kc rfl (kc rfl (kc rfl kn))) (sqn (eseq (eseq (ereg (qp rfl (qp rfl (qp rfl (qp rfl (qp rfl (qp rfl (qb ?_)))))))))))))))))
 rintro (_ | _) h1
 ·refine qp rfl (qg rfl (qp rfl (qg rfl (qp rfl (qg rfl (qp rfl (qg rfl (qp rfl (qg rfl (qp rfl (qg rfl (qp rfl (qb ?_)))))))))))))
  rintro (_ | _) h2
  ·refine qp rfl (qp rfl (qg rfl (hlda rfl rfl (lc rfl (lc rfl (ln rfl))) (qg rfl (qp rfl (qg rfl (qp rfl (qg rfl (hcall rfl rfl rfl (right_c _ c g0 h10) ?_)))))))))
   rintro _ _ ⟨rfl,hq⟩
   obtain rfl:=hq.symm
   refine qb ?_
   rintro (_ | _) h3
   ·refine qg rfl (qp rfl (qp rfl (qp rfl (qs rfl rfl (by decide) (qs rfl rfl (by decide) (qs rfl rfl (by decide) (qs rfl rfl (by decide) (qs rfl rfl (by decide) (qp rfl (qp rfl (qs rfl rfl (by decide) (qs rfl rfl (by decide) (qs rfl rfl (by decide) (qp rfl (qk (kc rfl (kc rfl (kc rfl (kc rfl (kc rfl kn))))) (kc rfl (kc rfl kn)) (sqn (ecT rfl (eseq (ereg (qp rfl (qk (kc rfl kn) kn (sqn (eret ?_)))))))))))))))))))))))
    refine sqr (fqr rfl ?_)
    first
    | (have e:askB c xs as g0 g1 nd=false:=by
        rw [Bool.eq_false_iff]
        intro h
        have q:=ask_iff.1 h
        simp only [sideOk,Bool.and_eq_true,decide_eq_true_eq] at q
        have g:(!decide ((xs.map I).length=(g0.map I).length))=true:=by first | assumption | simp_all
        simp [q.1.1] at *
       exact ⟨by rw [e];rfl,Ext.refl _⟩)
    | (have e:askB c xs as g0 g1 nd=vN c.decls c.funs nd (pos (addAll (fun _=>0) xs)) (pos (addAll (fun _=>0) as)):=by
        rw [addAll_set,addAll_set,Bool.eq_iff_iff,ask_iff]
        constructor
        ·exact fun h=>h.2.2.1
        ·intro h
         have hn:=vN_all _ _ _ _ _ h
         refine ⟨?_,?_,h,?_,?_⟩
         ·simp only [sideOk,Bool.and_eq_true,decide_eq_true_eq]
          exact ⟨by simp at h1;omega,by assumption⟩
         ·simp only [sideOk,Bool.and_eq_true,decide_eq_true_eq]
          exact ⟨by simp at h2;omega,by assumption⟩
         ·have g:decide ((nAll nd:Int) ≤ 30000)=true:=by assumption
          simp at g;omega
         ·have g:decide ((nDepth nd:Int) ≤ 4000)=true:=by assumption
          simp at g;omega
       exact ⟨by rw [e];rfl,(hx1.chg.trans hc2).ext fun i h=>by rcases h with h | h <;> omega⟩)
    | (have e:askB c xs as g0 g1 nd=false:=by
        rw [Bool.eq_false_iff]
        intro h
        have q:=ask_iff.1 h
        simp only [sideOk,Bool.and_eq_true,decide_eq_true_eq] at q
        have g:decide ((nDepth nd:Int) ≤ 4000)=false:=by assumption
        simp at g;omega
       exact ⟨by rw [e];rfl,Ext.refl _⟩)
    | (have e:askB c xs as g0 g1 nd=false:=by
        rw [Bool.eq_false_iff]
        intro h
        have q:=ask_iff.1 h
        simp only [sideOk,Bool.and_eq_true,decide_eq_true_eq] at q
        have g:decide ((nAll nd:Int) ≤ 30000)=false:=by assumption
        have hn:=vN_all _ _ _ _ _ q.2.2.1
        simp at g;omega
       exact ⟨by rw [e];rfl,Ext.refl _⟩)
    | (have e:askB c xs as g0 g1 nd=false:=by
        rw [Bool.eq_false_iff]
        intro h
        have q:=ask_iff.1 h
        simp only [sideOk,Bool.and_eq_true,decide_eq_true_eq] at q
        have g:g0.all (inR c)=false:=by assumption
        rw [q.1.2] at g;cases g
       exact ⟨by rw [e];rfl,Ext.refl _⟩)
    | (have e:askB c xs as g0 g1 nd=false:=by
        rw [Bool.eq_false_iff]
        intro h
        have q:=ask_iff.1 h
        simp only [sideOk,Bool.and_eq_true,decide_eq_true_eq] at q
        have g:g1.all (inR c)=false:=by assumption
        rw [q.2.1.2] at g;cases g
       exact ⟨by rw [e];rfl,Ext.refl _⟩)
    | (have e:askB c xs as g0 g1 nd=false:=by
        rw [Bool.eq_false_iff]
        intro h
        have q:=ask_iff.1 h
        simp only [sideOk,Bool.and_eq_true,decide_eq_true_eq] at q
        have q1:=q.1.1
        have q2:=q.2.1.1
        simp at h1 h2;omega
       exact ⟨by rw [e];rfl,Ext.refl _⟩)
    | (have e:askB c xs as g0 g1 nd=false:=by
        rw [Bool.eq_false_iff]
        intro h
        have q:=ask_iff.1 h
        simp only [sideOk,Bool.and_eq_true,decide_eq_true_eq] at q
        have q1:=q.1.1
        simp at h1;omega
       exact ⟨by rw [e];rfl,Ext.refl _⟩)
   ·refine qg rfl (qp rfl (qp rfl (qp rfl (qg rfl (hlda rfl rfl (lc rfl (lc rfl (ln rfl))) (qg rfl (qp rfl (qg rfl (qp rfl (qg rfl (hcall rfl rfl rfl (right_c _ c g1 h11) ?_)))))))))))
    rintro _ _ ⟨rfl,hq⟩
    obtain rfl:=hq.symm
    refine qb ?_
    rintro (_ | _) h4
    ·refine qg rfl (qp rfl (qp rfl (qp rfl (qs rfl rfl (by decide) (qs rfl rfl (by decide) (qs rfl rfl (by decide) (qp rfl (qk (kc rfl (kc rfl (kc rfl (kc rfl (kc rfl kn))))) (kc rfl (kc rfl kn)) (sqn (ecT rfl (eseq (ereg (qp rfl (qk (kc rfl kn) kn (sqn (eret (sqr (fqr rfl ?_))))))))))))))))))
     first
     | (have e:askB c xs as g0 g1 nd=false:=by
         rw [Bool.eq_false_iff]
         intro h
         have q:=ask_iff.1 h
         simp only [sideOk,Bool.and_eq_true,decide_eq_true_eq] at q
         have g:(!decide ((xs.map I).length=(g0.map I).length))=true:=by first | assumption | simp_all
         simp [q.1.1] at *
        exact ⟨by rw [e];rfl,Ext.refl _⟩)
     | (have e:askB c xs as g0 g1 nd=vN c.decls c.funs nd (pos (addAll (fun _=>0) xs)) (pos (addAll (fun _=>0) as)):=by
         rw [addAll_set,addAll_set,Bool.eq_iff_iff,ask_iff]
         constructor
         ·exact fun h=>h.2.2.1
         ·intro h
          have hn:=vN_all _ _ _ _ _ h
          refine ⟨?_,?_,h,?_,?_⟩
          ·simp only [sideOk,Bool.and_eq_true,decide_eq_true_eq]
           exact ⟨by simp at h1;omega,by assumption⟩
          ·simp only [sideOk,Bool.and_eq_true,decide_eq_true_eq]
           exact ⟨by simp at h2;omega,by assumption⟩
          ·have g:decide ((nAll nd:Int) ≤ 30000)=true:=by assumption
           simp at g;omega
          ·have g:decide ((nDepth nd:Int) ≤ 4000)=true:=by assumption
           simp at g;omega
        exact ⟨by rw [e];rfl,(hx1.chg.trans hc2).ext fun i h=>by rcases h with h | h <;> omega⟩)
     | (have e:askB c xs as g0 g1 nd=false:=by
         rw [Bool.eq_false_iff]
         intro h
         have q:=ask_iff.1 h
         simp only [sideOk,Bool.and_eq_true,decide_eq_true_eq] at q
         have g:decide ((nDepth nd:Int) ≤ 4000)=false:=by assumption
         simp at g;omega
        exact ⟨by rw [e];rfl,Ext.refl _⟩)
     | (have e:askB c xs as g0 g1 nd=false:=by
         rw [Bool.eq_false_iff]
         intro h
         have q:=ask_iff.1 h
         simp only [sideOk,Bool.and_eq_true,decide_eq_true_eq] at q
         have g:decide ((nAll nd:Int) ≤ 30000)=false:=by assumption
         have hn:=vN_all _ _ _ _ _ q.2.2.1
         simp at g;omega
        exact ⟨by rw [e];rfl,Ext.refl _⟩)
     | (have e:askB c xs as g0 g1 nd=false:=by
         rw [Bool.eq_false_iff]
         intro h
         have q:=ask_iff.1 h
         simp only [sideOk,Bool.and_eq_true,decide_eq_true_eq] at q
         have g:g0.all (inR c)=false:=by assumption
         rw [q.1.2] at g;cases g
        exact ⟨by rw [e];rfl,Ext.refl _⟩)
     | (have e:askB c xs as g0 g1 nd=false:=by
         rw [Bool.eq_false_iff]
         intro h
         have q:=ask_iff.1 h
         simp only [sideOk,Bool.and_eq_true,decide_eq_true_eq] at q
         have g:g1.all (inR c)=false:=by assumption
         rw [q.2.1.2] at g;cases g
        exact ⟨by rw [e];rfl,Ext.refl _⟩)
     | (have e:askB c xs as g0 g1 nd=false:=by
         rw [Bool.eq_false_iff]
         intro h
         have q:=ask_iff.1 h
         simp only [sideOk,Bool.and_eq_true,decide_eq_true_eq] at q
         have q1:=q.1.1
         have q2:=q.2.1.1
         simp at h1 h2;omega
        exact ⟨by rw [e];rfl,Ext.refl _⟩)
     | (have e:askB c xs as g0 g1 nd=false:=by
         rw [Bool.eq_false_iff]
         intro h
         have q:=ask_iff.1 h
         simp only [sideOk,Bool.and_eq_true,decide_eq_true_eq] at q
         have q1:=q.1.1
         simp at h1;omega
        exact ⟨by rw [e];rfl,Ext.refl _⟩)
    ·refine qg rfl (qp rfl (qp rfl (qp rfl (qg rfl (hlda rfl rfl (lc rfl (lc rfl (lc rfl (lc rfl (lc rfl (ln rfl)))))) (qg rfl (hcall rfl rfl rfl (Fits_c _ nd hz 30000 (by omega) (by omega)) ?_)))))))
     rintro _ _ ⟨rfl,hq⟩
     obtain rfl:=hq.symm
     refine qb ?_
     rintro (_ | _) h5
     ·refine qg rfl (qp rfl (qp rfl (qk (kc rfl (kc rfl (kc rfl (kc rfl (kc rfl kn))))) (kc rfl (kc rfl kn)) (sqn (ecT rfl (eseq (ereg (qp rfl (qk (kc rfl kn) kn (sqn (eret (sqr (fqr rfl ?_)))))))))))))
      first
      | (have e:askB c xs as g0 g1 nd=false:=by
          rw [Bool.eq_false_iff]
          intro h
          have q:=ask_iff.1 h
          simp only [sideOk,Bool.and_eq_true,decide_eq_true_eq] at q
          have g:(!decide ((xs.map I).length=(g0.map I).length))=true:=by first | assumption | simp_all
          simp [q.1.1] at *
         exact ⟨by rw [e];rfl,Ext.refl _⟩)
      | (have e:askB c xs as g0 g1 nd=vN c.decls c.funs nd (pos (addAll (fun _=>0) xs)) (pos (addAll (fun _=>0) as)):=by
          rw [addAll_set,addAll_set,Bool.eq_iff_iff,ask_iff]
          constructor
          ·exact fun h=>h.2.2.1
          ·intro h
           have hn:=vN_all _ _ _ _ _ h
           refine ⟨?_,?_,h,?_,?_⟩
           ·simp only [sideOk,Bool.and_eq_true,decide_eq_true_eq]
            exact ⟨by simp at h1;omega,by assumption⟩
           ·simp only [sideOk,Bool.and_eq_true,decide_eq_true_eq]
            exact ⟨by simp at h2;omega,by assumption⟩
           ·have g:decide ((nAll nd:Int) ≤ 30000)=true:=by assumption
            simp at g;omega
           ·have g:decide ((nDepth nd:Int) ≤ 4000)=true:=by assumption
            simp at g;omega
         exact ⟨by rw [e];rfl,(hx1.chg.trans hc2).ext fun i h=>by rcases h with h | h <;> omega⟩)
      | (have e:askB c xs as g0 g1 nd=false:=by
          rw [Bool.eq_false_iff]
          intro h
          have q:=ask_iff.1 h
          simp only [sideOk,Bool.and_eq_true,decide_eq_true_eq] at q
          have g:decide ((nDepth nd:Int) ≤ 4000)=false:=by assumption
          simp at g;omega
         exact ⟨by rw [e];rfl,Ext.refl _⟩)
      | (have e:askB c xs as g0 g1 nd=false:=by
          rw [Bool.eq_false_iff]
          intro h
          have q:=ask_iff.1 h
          simp only [sideOk,Bool.and_eq_true,decide_eq_true_eq] at q
          have g:decide ((nAll nd:Int) ≤ 30000)=false:=by assumption
          have hn:=vN_all _ _ _ _ _ q.2.2.1
          simp at g;omega
         exact ⟨by rw [e];rfl,Ext.refl _⟩)
      | (have e:askB c xs as g0 g1 nd=false:=by
          rw [Bool.eq_false_iff]
          intro h
          have q:=ask_iff.1 h
          simp only [sideOk,Bool.and_eq_true,decide_eq_true_eq] at q
          have g:g0.all (inR c)=false:=by assumption
          rw [q.1.2] at g;cases g
         exact ⟨by rw [e];rfl,Ext.refl _⟩)
      | (have e:askB c xs as g0 g1 nd=false:=by
          rw [Bool.eq_false_iff]
          intro h
          have q:=ask_iff.1 h
          simp only [sideOk,Bool.and_eq_true,decide_eq_true_eq] at q
          have g:g1.all (inR c)=false:=by assumption
          rw [q.2.1.2] at g;cases g
         exact ⟨by rw [e];rfl,Ext.refl _⟩)
      | (have e:askB c xs as g0 g1 nd=false:=by
          rw [Bool.eq_false_iff]
          intro h
          have q:=ask_iff.1 h
          simp only [sideOk,Bool.and_eq_true,decide_eq_true_eq] at q
          have q1:=q.1.1
          have q2:=q.2.1.1
          simp at h1 h2;omega
         exact ⟨by rw [e];rfl,Ext.refl _⟩)
      | (have e:askB c xs as g0 g1 nd=false:=by
          rw [Bool.eq_false_iff]
          intro h
          have q:=ask_iff.1 h
          simp only [sideOk,Bool.and_eq_true,decide_eq_true_eq] at q
          have q1:=q.1.1
          simp at h1;omega
         exact ⟨by rw [e];rfl,Ext.refl _⟩)
     ·refine qg rfl (qp rfl (qp rfl (qk (kc rfl (kc rfl (kc rfl (kc rfl (kc rfl kn))))) (kc rfl (kc rfl kn)) (sqn (ecF rfl (eskip (sqn (eseq (ereg (hlda rfl rfl (lc rfl (lc rfl (lc rfl (lc rfl (lc rfl (ln rfl)))))) (hcall rfl rfl rfl (Size_c nd hz _) ?_)))))))))))
      rintro _ _ ⟨rfl,hq⟩
      obtain rfl:=hq.symm
      refine qp rfl (qp rfl (qp rfl (qp rfl (qp rfl (qk (kc rfl (kc rfl (kc rfl (kc rfl (kc rfl kn))))) (kc rfl (kc rfl kn)) (sqn (eseq (ereg (qp rfl (qp rfl (qb ?_)))))))))))
      rintro (_ | _) h6
      ·refine qp rfl (qs rfl rfl (by decide) (qs rfl rfl (by decide) (qs rfl rfl (by decide) (qs rfl rfl (by decide) (qs rfl rfl (by decide) (qs rfl rfl (by decide) (qp rfl (qp rfl (qk (kc rfl kn) kn (sqn (eret (fqr rfl ?_))))))))))))
       first
       | (have e:askB c xs as g0 g1 nd=false:=by
           rw [Bool.eq_false_iff]
           intro h
           have q:=ask_iff.1 h
           simp only [sideOk,Bool.and_eq_true,decide_eq_true_eq] at q
           have g:(!decide ((xs.map I).length=(g0.map I).length))=true:=by first | assumption | simp_all
           simp [q.1.1] at *
          exact ⟨by rw [e];rfl,Ext.refl _⟩)
       | (have e:askB c xs as g0 g1 nd=vN c.decls c.funs nd (pos (addAll (fun _=>0) xs)) (pos (addAll (fun _=>0) as)):=by
           rw [addAll_set,addAll_set,Bool.eq_iff_iff,ask_iff]
           constructor
           ·exact fun h=>h.2.2.1
           ·intro h
            have hn:=vN_all _ _ _ _ _ h
            refine ⟨?_,?_,h,?_,?_⟩
            ·simp only [sideOk,Bool.and_eq_true,decide_eq_true_eq]
             exact ⟨by simp at h1;omega,by assumption⟩
            ·simp only [sideOk,Bool.and_eq_true,decide_eq_true_eq]
             exact ⟨by simp at h2;omega,by assumption⟩
            ·have g:decide ((nAll nd:Int) ≤ 30000)=true:=by assumption
             simp at g;omega
            ·have g:decide ((nDepth nd:Int) ≤ 4000)=true:=by assumption
             simp at g;omega
          exact ⟨by rw [e];rfl,(hx1.chg.trans hc2).ext fun i h=>by rcases h with h | h <;> omega⟩)
       | (have e:askB c xs as g0 g1 nd=false:=by
           rw [Bool.eq_false_iff]
           intro h
           have q:=ask_iff.1 h
           simp only [sideOk,Bool.and_eq_true,decide_eq_true_eq] at q
           have g:decide ((nDepth nd:Int) ≤ 4000)=false:=by assumption
           simp at g;omega
          exact ⟨by rw [e];rfl,Ext.refl _⟩)
       | (have e:askB c xs as g0 g1 nd=false:=by
           rw [Bool.eq_false_iff]
           intro h
           have q:=ask_iff.1 h
           simp only [sideOk,Bool.and_eq_true,decide_eq_true_eq] at q
           have g:decide ((nAll nd:Int) ≤ 30000)=false:=by assumption
           have hn:=vN_all _ _ _ _ _ q.2.2.1
           simp at g;omega
          exact ⟨by rw [e];rfl,Ext.refl _⟩)
       | (have e:askB c xs as g0 g1 nd=false:=by
           rw [Bool.eq_false_iff]
           intro h
           have q:=ask_iff.1 h
           simp only [sideOk,Bool.and_eq_true,decide_eq_true_eq] at q
           have g:g0.all (inR c)=false:=by assumption
           rw [q.1.2] at g;cases g
          exact ⟨by rw [e];rfl,Ext.refl _⟩)
       | (have e:askB c xs as g0 g1 nd=false:=by
           rw [Bool.eq_false_iff]
           intro h
           have q:=ask_iff.1 h
           simp only [sideOk,Bool.and_eq_true,decide_eq_true_eq] at q
           have g:g1.all (inR c)=false:=by assumption
           rw [q.2.1.2] at g;cases g
          exact ⟨by rw [e];rfl,Ext.refl _⟩)
       | (have e:askB c xs as g0 g1 nd=false:=by
           rw [Bool.eq_false_iff]
           intro h
           have q:=ask_iff.1 h
           simp only [sideOk,Bool.and_eq_true,decide_eq_true_eq] at q
           have q1:=q.1.1
           have q2:=q.2.1.1
           simp at h1 h2;omega
          exact ⟨by rw [e];rfl,Ext.refl _⟩)
       | (have e:askB c xs as g0 g1 nd=false:=by
           rw [Bool.eq_false_iff]
           intro h
           have q:=ask_iff.1 h
           simp only [sideOk,Bool.and_eq_true,decide_eq_true_eq] at q
           have q1:=q.1.1
           simp at h1;omega
          exact ⟨by rw [e];rfl,Ext.refl _⟩)
      ·refine qp rfl (qg rfl (hlda rfl rfl (lc rfl (lc rfl (ln rfl))) (qg rfl (qp rfl (qg rfl (qp rfl (qg rfl (hcall rfl rfl rfl (NewScope_c _ xs as h1x h1a) ?_))))))))
       rintro _ S1 ⟨o,ix,ia,rfl,hS1,hx1,hix,hia,ho⟩
       refine qg rfl (hlda rfl rfl (lc rfl (lc rfl (lc rfl (lc rfl (lc rfl (ln rfl)))))) (qg rfl (hcall rfl rfl rfl (Valid_c c hc.hc nd hz _ o ix ia _ _ hS1 ((addAll_bn _ Bn_zero).le (by omega)) ((addAll_bn _ Bn_zero).le (by omega))) ?_)))
       rintro _ S2 ⟨rfl,hS2,hc2⟩
       refine qp rfl (qp rfl (qk (kc rfl kn) kn (sqn (eret (fqr rfl ?_)))))
       first
       | (have e:askB c xs as g0 g1 nd=false:=by
           rw [Bool.eq_false_iff]
           intro h
           have q:=ask_iff.1 h
           simp only [sideOk,Bool.and_eq_true,decide_eq_true_eq] at q
           have g:(!decide ((xs.map I).length=(g0.map I).length))=true:=by first | assumption | simp_all
           simp [q.1.1] at *
          exact ⟨by rw [e];rfl,Ext.refl _⟩)
       | (have e:askB c xs as g0 g1 nd=vN c.decls c.funs nd (pos (addAll (fun _=>0) xs)) (pos (addAll (fun _=>0) as)):=by
           rw [addAll_set,addAll_set,Bool.eq_iff_iff,ask_iff]
           constructor
           ·exact fun h=>h.2.2.1
           ·intro h
            have hn:=vN_all _ _ _ _ _ h
            refine ⟨?_,?_,h,?_,?_⟩
            ·simp only [sideOk,Bool.and_eq_true,decide_eq_true_eq]
             exact ⟨by simp at h1;omega,by assumption⟩
            ·simp only [sideOk,Bool.and_eq_true,decide_eq_true_eq]
             exact ⟨by simp at h2;omega,by assumption⟩
            ·have g:decide ((nAll nd:Int) ≤ 30000)=true:=by assumption
             simp at g;omega
            ·have g:decide ((nDepth nd:Int) ≤ 4000)=true:=by assumption
             simp at g;omega
          exact ⟨by rw [e];rfl,(hx1.chg.trans hc2).ext fun i h=>by rcases h with h | h <;> omega⟩)
       | (have e:askB c xs as g0 g1 nd=false:=by
           rw [Bool.eq_false_iff]
           intro h
           have q:=ask_iff.1 h
           simp only [sideOk,Bool.and_eq_true,decide_eq_true_eq] at q
           have g:decide ((nDepth nd:Int) ≤ 4000)=false:=by assumption
           simp at g;omega
          exact ⟨by rw [e];rfl,Ext.refl _⟩)
       | (have e:askB c xs as g0 g1 nd=false:=by
           rw [Bool.eq_false_iff]
           intro h
           have q:=ask_iff.1 h
           simp only [sideOk,Bool.and_eq_true,decide_eq_true_eq] at q
           have g:decide ((nAll nd:Int) ≤ 30000)=false:=by assumption
           have hn:=vN_all _ _ _ _ _ q.2.2.1
           simp at g;omega
          exact ⟨by rw [e];rfl,Ext.refl _⟩)
       | (have e:askB c xs as g0 g1 nd=false:=by
           rw [Bool.eq_false_iff]
           intro h
           have q:=ask_iff.1 h
           simp only [sideOk,Bool.and_eq_true,decide_eq_true_eq] at q
           have g:g0.all (inR c)=false:=by assumption
           rw [q.1.2] at g;cases g
          exact ⟨by rw [e];rfl,Ext.refl _⟩)
       | (have e:askB c xs as g0 g1 nd=false:=by
           rw [Bool.eq_false_iff]
           intro h
           have q:=ask_iff.1 h
           simp only [sideOk,Bool.and_eq_true,decide_eq_true_eq] at q
           have g:g1.all (inR c)=false:=by assumption
           rw [q.2.1.2] at g;cases g
          exact ⟨by rw [e];rfl,Ext.refl _⟩)
       | (have e:askB c xs as g0 g1 nd=false:=by
           rw [Bool.eq_false_iff]
           intro h
           have q:=ask_iff.1 h
           simp only [sideOk,Bool.and_eq_true,decide_eq_true_eq] at q
           have q1:=q.1.1
           have q2:=q.2.1.1
           simp at h1 h2;omega
          exact ⟨by rw [e];rfl,Ext.refl _⟩)
       | (have e:askB c xs as g0 g1 nd=false:=by
           rw [Bool.eq_false_iff]
           intro h
           have q:=ask_iff.1 h
           simp only [sideOk,Bool.and_eq_true,decide_eq_true_eq] at q
           have q1:=q.1.1
           simp at h1;omega
          exact ⟨by rw [e];rfl,Ext.refl _⟩)
  ·refine qp rfl (qp rfl (qs rfl rfl (by decide) (qs rfl rfl (by decide) (qs rfl rfl (by decide) (qs rfl rfl (by decide) (qs rfl rfl (by decide) (qp rfl (qp rfl (qs rfl rfl (by decide) (qs rfl rfl (by decide) (qs rfl rfl (by decide) (qs rfl rfl (by decide) (qs rfl rfl (by decide) (qp rfl (qp rfl (qs rfl rfl (by decide) (qs rfl rfl (by decide) (qs rfl rfl (by decide) (qp rfl (qk (kc rfl (kc rfl (kc rfl (kc rfl (kc rfl kn))))) (kc rfl (kc rfl kn)) (sqn (ecT rfl (eseq ?_)))))))))))))))))))))))
   refine ereg (qp rfl (qk (kc rfl kn) kn (sqn (eret (sqr (fqr rfl ?_))))))
   first
   | (have e:askB c xs as g0 g1 nd=false:=by
       rw [Bool.eq_false_iff]
       intro h
       have q:=ask_iff.1 h
       simp only [sideOk,Bool.and_eq_true,decide_eq_true_eq] at q
       have g:(!decide ((xs.map I).length=(g0.map I).length))=true:=by first | assumption | simp_all
       simp [q.1.1] at *
      exact ⟨by rw [e];rfl,Ext.refl _⟩)
   | (have e:askB c xs as g0 g1 nd=vN c.decls c.funs nd (pos (addAll (fun _=>0) xs)) (pos (addAll (fun _=>0) as)):=by
       rw [addAll_set,addAll_set,Bool.eq_iff_iff,ask_iff]
       constructor
       ·exact fun h=>h.2.2.1
       ·intro h
        have hn:=vN_all _ _ _ _ _ h
        refine ⟨?_,?_,h,?_,?_⟩
        ·simp only [sideOk,Bool.and_eq_true,decide_eq_true_eq]
         exact ⟨by simp at h1;omega,by assumption⟩
        ·simp only [sideOk,Bool.and_eq_true,decide_eq_true_eq]
         exact ⟨by simp at h2;omega,by assumption⟩
        ·have g:decide ((nAll nd:Int) ≤ 30000)=true:=by assumption
         simp at g;omega
        ·have g:decide ((nDepth nd:Int) ≤ 4000)=true:=by assumption
         simp at g;omega
      exact ⟨by rw [e];rfl,(hx1.chg.trans hc2).ext fun i h=>by rcases h with h | h <;> omega⟩)
   | (have e:askB c xs as g0 g1 nd=false:=by
       rw [Bool.eq_false_iff]
       intro h
       have q:=ask_iff.1 h
       simp only [sideOk,Bool.and_eq_true,decide_eq_true_eq] at q
       have g:decide ((nDepth nd:Int) ≤ 4000)=false:=by assumption
       simp at g;omega
      exact ⟨by rw [e];rfl,Ext.refl _⟩)
   | (have e:askB c xs as g0 g1 nd=false:=by
       rw [Bool.eq_false_iff]
       intro h
       have q:=ask_iff.1 h
       simp only [sideOk,Bool.and_eq_true,decide_eq_true_eq] at q
       have g:decide ((nAll nd:Int) ≤ 30000)=false:=by assumption
       have hn:=vN_all _ _ _ _ _ q.2.2.1
       simp at g;omega
      exact ⟨by rw [e];rfl,Ext.refl _⟩)
   | (have e:askB c xs as g0 g1 nd=false:=by
       rw [Bool.eq_false_iff]
       intro h
       have q:=ask_iff.1 h
       simp only [sideOk,Bool.and_eq_true,decide_eq_true_eq] at q
       have g:g0.all (inR c)=false:=by assumption
       rw [q.1.2] at g;cases g
      exact ⟨by rw [e];rfl,Ext.refl _⟩)
   | (have e:askB c xs as g0 g1 nd=false:=by
       rw [Bool.eq_false_iff]
       intro h
       have q:=ask_iff.1 h
       simp only [sideOk,Bool.and_eq_true,decide_eq_true_eq] at q
       have g:g1.all (inR c)=false:=by assumption
       rw [q.2.1.2] at g;cases g
      exact ⟨by rw [e];rfl,Ext.refl _⟩)
   | (have e:askB c xs as g0 g1 nd=false:=by
       rw [Bool.eq_false_iff]
       intro h
       have q:=ask_iff.1 h
       simp only [sideOk,Bool.and_eq_true,decide_eq_true_eq] at q
       have q1:=q.1.1
       have q2:=q.2.1.1
       simp at h1 h2;omega
      exact ⟨by rw [e];rfl,Ext.refl _⟩)
   | (have e:askB c xs as g0 g1 nd=false:=by
       rw [Bool.eq_false_iff]
       intro h
       have q:=ask_iff.1 h
       simp only [sideOk,Bool.and_eq_true,decide_eq_true_eq] at q
       have q1:=q.1.1
       simp at h1;omega
      exact ⟨by rw [e];rfl,Ext.refl _⟩)
 ·refine qp rfl (qs rfl rfl (by decide) (qs rfl rfl (by decide) (qs rfl rfl (by decide) (qs rfl rfl (by decide) (qs rfl rfl (by decide) (qs rfl rfl (by decide) (qp rfl (qp rfl (qs rfl rfl (by decide) (qs rfl rfl (by decide) (qs rfl rfl (by decide) (qs rfl rfl (by decide) (qs rfl rfl (by decide) (qp rfl (qp rfl (qs rfl rfl (by decide) (qs rfl rfl (by decide) (qs rfl rfl (by decide) (qs rfl rfl (by decide) (qs rfl rfl (by decide) (qp rfl (qp rfl (qs rfl rfl (by decide) ?_)))))))))))))))))))))))
  refine qs rfl rfl (by decide) (qs rfl rfl (by decide) (qp rfl (qk (kc rfl (kc rfl (kc rfl (kc rfl (kc rfl kn))))) (kc rfl (kc rfl kn)) (sqn (ecT rfl (eseq (ereg (qp rfl (qk (kc rfl kn) kn (sqn (eret (sqr (fqr rfl ?_)))))))))))))
  first
  | (have e:askB c xs as g0 g1 nd=false:=by
      rw [Bool.eq_false_iff]
      intro h
      have q:=ask_iff.1 h
      simp only [sideOk,Bool.and_eq_true,decide_eq_true_eq] at q
      have g:(!decide ((xs.map I).length=(g0.map I).length))=true:=by first | assumption | simp_all
      simp [q.1.1] at *
     exact ⟨by rw [e];rfl,Ext.refl _⟩)
  | (have e:askB c xs as g0 g1 nd=vN c.decls c.funs nd (pos (addAll (fun _=>0) xs)) (pos (addAll (fun _=>0) as)):=by
      rw [addAll_set,addAll_set,Bool.eq_iff_iff,ask_iff]
      constructor
      ·exact fun h=>h.2.2.1
      ·intro h
       have hn:=vN_all _ _ _ _ _ h
       refine ⟨?_,?_,h,?_,?_⟩
       ·simp only [sideOk,Bool.and_eq_true,decide_eq_true_eq]
        exact ⟨by simp at h1;omega,by assumption⟩
       ·simp only [sideOk,Bool.and_eq_true,decide_eq_true_eq]
        exact ⟨by simp at h2;omega,by assumption⟩
       ·have g:decide ((nAll nd:Int) ≤ 30000)=true:=by assumption
        simp at g;omega
       ·have g:decide ((nDepth nd:Int) ≤ 4000)=true:=by assumption
        simp at g;omega
     exact ⟨by rw [e];rfl,(hx1.chg.trans hc2).ext fun i h=>by rcases h with h | h <;> omega⟩)
  | (have e:askB c xs as g0 g1 nd=false:=by
      rw [Bool.eq_false_iff]
      intro h
      have q:=ask_iff.1 h
      simp only [sideOk,Bool.and_eq_true,decide_eq_true_eq] at q
      have g:decide ((nDepth nd:Int) ≤ 4000)=false:=by assumption
      simp at g;omega
     exact ⟨by rw [e];rfl,Ext.refl _⟩)
  | (have e:askB c xs as g0 g1 nd=false:=by
      rw [Bool.eq_false_iff]
      intro h
      have q:=ask_iff.1 h
      simp only [sideOk,Bool.and_eq_true,decide_eq_true_eq] at q
      have g:decide ((nAll nd:Int) ≤ 30000)=false:=by assumption
      have hn:=vN_all _ _ _ _ _ q.2.2.1
      simp at g;omega
     exact ⟨by rw [e];rfl,Ext.refl _⟩)
  | (have e:askB c xs as g0 g1 nd=false:=by
      rw [Bool.eq_false_iff]
      intro h
      have q:=ask_iff.1 h
      simp only [sideOk,Bool.and_eq_true,decide_eq_true_eq] at q
      have g:g0.all (inR c)=false:=by assumption
      rw [q.1.2] at g;cases g
     exact ⟨by rw [e];rfl,Ext.refl _⟩)
  | (have e:askB c xs as g0 g1 nd=false:=by
      rw [Bool.eq_false_iff]
      intro h
      have q:=ask_iff.1 h
      simp only [sideOk,Bool.and_eq_true,decide_eq_true_eq] at q
      have g:g1.all (inR c)=false:=by assumption
      rw [q.2.1.2] at g;cases g
     exact ⟨by rw [e];rfl,Ext.refl _⟩)
  | (have e:askB c xs as g0 g1 nd=false:=by
      rw [Bool.eq_false_iff]
      intro h
      have q:=ask_iff.1 h
      simp only [sideOk,Bool.and_eq_true,decide_eq_true_eq] at q
      have q1:=q.1.1
      have q2:=q.2.1.1
      simp at h1 h2;omega
     exact ⟨by rw [e];rfl,Ext.refl _⟩)
  | (have e:askB c xs as g0 g1 nd=false:=by
      rw [Bool.eq_false_iff]
      intro h
      have q:=ask_iff.1 h
      simp only [sideOk,Bool.and_eq_true,decide_eq_true_eq] at q
      have q1:=q.1.1
      simp at h1;omega
     exact ⟨by rw [e];rfl,Ext.refl _⟩)
def listD:Decl:=⟨⟨#[108,105,115,116]⟩,false,[⟨⟨#[78,105,108]⟩,[]⟩]⟩
def doneN:Node:=.mk 7 0 0 [.mk 14 0 0 [.mk 0 0 0 [] []] []] []
def doneF:List AV:=[I 7,I 0,I 0,.slice .full 5 [.agg [I 14,I 0,I 0,SL 5 [.agg [I 0,I 0,I 0,SL 5 [],SL 7 []]],SL 7 []]],.slice .full 7 []]
theorem doneF_er:(AV.agg doneF).er=.agg doneN.cs:=by
 show _=AV.agg [I 7,I 0,I 0,SL 5 [(Node.mk 14 0 0 [.mk 0 0 0 [] []] []).enc],SL 7 []]
 rw [Node.enc_eq]
 show _=AV.agg [I 7,I 0,I 0,SL 5 [.agg [I 14,I 0,I 0,SL 5 [(Node.mk 0 0 0 [] []).enc],SL 7 []]],SL 7 []]
 rw [Node.enc_eq]
 rfl
def cutP (x:Node):Core:=⟨[listD],[⟨⟨#[109,97,105,110]⟩,[],[],.mk 9 0 0 [x,doneN] []⟩]⟩
theorem awc1_c (s:Sg) (o:Own) (q1 q2:Nat) (x:Node) (h1:s.ob q1=some (.row [.slice o 3 [listD.enc]])) (h2:s.ob q2=some (.row doneF)):HC p N43_ [.agg x.cs,.ptr q1 0,.ptr q2 0] s (fun r s'=>r=[.agg (Core.cs (cutP x))] ∧ s'=s):=by
 refine hcf rfl f43_ rfl ?_
 simp only [chainOf]
 refine eseq (ereg (hbox (dc (dc (dc dn rfl) rfl) rfl) rfl (lc rfl (lc rfl (lc rfl (lc rfl (lc rfl (ln rfl)))))) (hal (dc (dc (dc (dc dn rfl) rfl) rfl) rfl) (qk (kc rfl (kc rfl (kc rfl (kc rfl kn)))) (kc rfl (kc rfl kn)) (sqn (eseq (ereg (hldo rfl h1 rfl ?_))))))))
 refine hlda rfl rfl (lc rfl (lc rfl (lc rfl (lc rfl (lc rfl (ln rfl)))))) (hldo rfl h2 rfl ?_)
 refine hbsl rfl rfl (lc rfl (lc rfl (ln rfl))) (hbuild rfl rfl (lc rfl (lc rfl (lc rfl (lc rfl (lc rfl (ln rfl)))))) (hbuild rfl rfl (lc rfl (lc rfl (lc rfl (lc rfl (lc rfl (lc rfl (lc rfl (lc rfl (ln rfl))))))))) (hbsl rfl rfl (lc rfl (ln rfl)) (hbuild rfl rfl (lc rfl (lc rfl (ln rfl))) (hstl rfl rfl rfl rfl (Nat.le_of_ble_eq_true rfl) (lc rfl (lc rfl (ln rfl))) (qk (kc rfl kn) (kc rfl kn) (sqn (eret (fqr rfl ?_)))))))))
 refine ⟨?_,rfl⟩
 have e:(Node.mk 9 0 0 [x,doneN] []).cs=[I 9,I 0,I 0,SL 5 [.agg x.cs,.agg doneN.cs],SL 7 []]:=by
  show [I 9,I 0,I 0,SL 5 [x.enc,doneN.enc],SL 7 []]=_
  rw [Node.enc_eq x,Node.enc_eq doneN]
 simp only [Core.cs,cutP,List.map_cons,List.map_nil,CFun.enc_eq]
 rw [e,← doneF_er]
 rfl
theorem aw_type:typeR (cutP (.mk 1 3 0 [] [])) [4,4] [] [0,1] [] (.mk 0 4 0 [] [])=[I 1,I 0]:=by rfl
theorem aw_check1:(if coreOk (cutP (.mk 1 3 0 [] []))=true then (if typedOk2 (cutP (.mk 1 3 0 [] []))=true then (0:Int) else 70) else 60)=0:=by rfl
theorem aw_check2:(if coreOk (cutP (.mk 2 0 1 [] []))=true then (if typedOk2 (cutP (.mk 2 0 1 [] []))=true then (0:Int) else 70) else 60)=70:=by rfl
theorem h_gen {c:Caller} {l:List AIns} {E:Nat → Option TV} {L:Nat → Option (List AV)} {n:Nat} {v:Nat → Bool} {D:List (Nat × List AV)} {S S':Sg} {Q:Fr → Prop} (e:S=S') (h:HL c l ⟨E,L,n,v,D,S'⟩ Q):HL c l ⟨E,L,n,v,D,S⟩ Q:=by
 subst e;exact h
theorem awake_c (s:Sg) (hQ:QOK s):HC p N11_ [] s (fun r s'=>r=[B true] ∧ Ext s s'):=by
 have z1:=SzC.of (c:=cutP (.mk 1 3 0 [] [])) (by decide)
 have z2:=SzC.of (c:=cutP (.mk 2 0 1 [] [])) (by decide)
 refine hcf rfl f11_ rfl ?_
 simp only [chainOf]
 refine eseq (ereg (qp rfl (qk kn kn (sqn (eseq (ereg (hbuild rfl rfl (lc rfl (lc rfl (ln rfl))) (hbsl rfl rfl (lc rfl (ln rfl)) (hbuild rfl rfl (lc rfl (lc rfl (lc rfl (ln rfl)))) (hbsl rfl rfl (lc rfl (ln rfl)) (hall (hsto (cs':=[.slice .full 3 [listD.enc]]) rfl rfl new_ob rfl (Nat.le_of_ble_eq_true rfl) (by simp) (by rfl) (qk (kc rfl kn) kn (sqn (eseq (ereg (hbuild rfl rfl (lc rfl (lc rfl (lc rfl (lc rfl (lc rfl (ln rfl)))))) (hbsl rfl rfl (lc rfl (ln rfl)) (hbuild rfl rfl (lc rfl (lc rfl (lc rfl (lc rfl (lc rfl (ln rfl)))))) (hbsl rfl rfl (lc rfl (ln rfl)) (hbuild rfl rfl (lc rfl (lc rfl (lc rfl (lc rfl (lc rfl (ln rfl)))))) (hall (hsto (cs':=doneF) rfl rfl new_ob rfl (Nat.le_of_ble_eq_true rfl) (by simp) (by rfl) ?_)))))))))))))))))))))))
 have o1:((((s.new (.row [.slice .full 3 []])).set s.nx (.row [.slice .full 3 [listD.enc]])).new (.row [.lit (.int .i64 0),.lit (.int .i64 0),.lit (.int .i64 0),.slice .full 5 [],.slice .full 7 []])).set (s.nx + 1) (.row doneF)).ob s.nx=some (.row [.slice .full 3 [listD.enc]]):=by
  rw [set_ne (by omega),new_lt (by show s.nx < s.nx + 1;omega),set_ob]
 have o2:((((s.new (.row [.slice .full 3 []])).set s.nx (.row [.slice .full 3 [listD.enc]])).new (.row [.lit (.int .i64 0),.lit (.int .i64 0),.lit (.int .i64 0),.slice .full 5 [],.slice .full 7 []])).set (s.nx + 1) (.row doneF)).ob (s.nx + 1)=some (.row doneF):=set_ob
 have x0:Ext s ((((s.new (.row [.slice .full 3 []])).set s.nx (.row [.slice .full 3 [listD.enc]])).new (.row [.lit (.int .i64 0),.lit (.int .i64 0),.lit (.int .i64 0),.slice .full 5 [],.slice .full 7 []])).set (s.nx + 1) (.row doneF)):=(((Ext.new).set (Nat.le_refl _)).trans Ext.new).set (by omega)
 have n0:s.nx + 1 < ((((s.new (.row [.slice .full 3 []])).set s.nx (.row [.slice .full 3 [listD.enc]])).new (.row [.lit (.int .i64 0),.lit (.int .i64 0),.lit (.int .i64 0),.slice .full 5 [],.slice .full 7 []])).set (s.nx + 1) (.row doneF)).nx:=by show s.nx + 1 < s.nx + 2;omega
 refine h_gen (S':=(((s.new (.row [.slice .full 3 []])).set s.nx (.row [.slice .full 3 [listD.enc]])).new (.row [.lit (.int .i64 0),.lit (.int .i64 0),.lit (.int .i64 0),.slice .full 5 [],.slice .full 7 []])).set (s.nx + 1) (.row doneF)) rfl ?_
 generalize ((((s.new (.row [.slice .full 3 []])).set s.nx (.row [.slice .full 3 [listD.enc]])).new (.row [.lit (.int .i64 0),.lit (.int .i64 0),.lit (.int .i64 0),.slice .full 5 [],.slice .full 7 []])).set (s.nx + 1) (.row doneF))=S0 at o1 o2 x0 n0 ⊢
 have hQ1:=hQ.ext x0
 refine qk (kc rfl (kc rfl kn)) kn (sqn (eseq (ereg (qp rfl (qp rfl (qk (kc rfl kn) kn (sqn (eseq (ereg (qp rfl (hbuild rfl rfl (lc rfl (lc rfl (lc rfl (lc rfl (lc rfl (ln rfl)))))) (hcall rfl rfl rfl (awc1_c _ .full s.nx (s.nx + 1) (.mk 1 3 0 [] []) o1 o2) ?_))))))))))))
 rintro _ _ ⟨rfl,hq⟩
 obtain rfl:=hq.symm
 refine hal (dc (dc (dc (dc dn rfl) rfl) rfl) rfl) (hstl rfl rfl rfl rfl (Nat.le_of_ble_eq_true rfl) (lc rfl (lc rfl (ln rfl))) (qk (kc rfl (kc rfl kn)) (kc rfl kn) (sqn (eseq (ereg (hlda rfl rfl (lc rfl (lc rfl (ln rfl))) (hbsl rfl rfl (lc rfl (lc rfl (ln rfl))) (hbsl rfl rfl (lc rfl (lc rfl (ln rfl))) (hbuild rfl rfl (lc rfl (lc rfl (ln rfl))) (hbuild rfl rfl (lc rfl (lc rfl (lc rfl (lc rfl (lc rfl (ln rfl)))))) (hcall rfl rfl rfl (Type_c _ hQ1 (cutP (.mk 1 3 0 [] [])) z1.hc z1.fv z1.bz [4,4] [] [0,1] [] (.mk 0 4 0 [] []) (by decide) (by decide) (by decide)) ?_)))))))))))
 rintro _ S1 ⟨rfl,hx1⟩
 rw [aw_type]
 refine qp rfl (qp rfl (qp rfl (qp rfl (qp rfl (qk (kc rfl (kc rfl (kc rfl (kc rfl kn)))) (kc rfl kn) (sqn (eseq (ereg (hlda rfl rfl (lc rfl (lc rfl (ln rfl))) (hcall rfl rfl rfl (Check_c _ (hQ1.ext hx1) (cutP (.mk 1 3 0 [] [])) z1.hc z1.fv z1.bz z1.fl) ?_))))))))))
 rintro _ S2 ⟨rfl,hx2⟩
 rw [aw_check1]
 refine qp rfl (qb ?_)
 rintro (_ | _) h1
 ·refine qp rfl (qs rfl rfl (by decide) (qs rfl rfl (by decide) (qs rfl rfl (by decide) (qs rfl rfl (by decide) (qs rfl rfl (by decide) (qp rfl (qp rfl (qs rfl rfl (by decide) (qs rfl rfl (by decide) (qp rfl (qp rfl (qs rfl rfl (by decide) (qs rfl rfl (by decide) (qp rfl (qp rfl (qk (kc rfl kn) kn (sqn (eret (fqr rfl ?_)))))))))))))))))))
  first
  | exact ⟨rfl,x0.trans (hx1.trans (hx2.trans hx3))⟩
  | (exfalso;simp at h1;done)
  | (exfalso;simp at h2;done)
  | (exfalso;simp at h3;done)
 ·refine qp rfl (qg rfl (qp rfl (qg rfl (hbuild rfl rfl (lc rfl (lc rfl (lc rfl (lc rfl (lc rfl (ln rfl)))))) (qg rfl (hcall rfl rfl rfl (awc1_c _ .full s.nx (s.nx + 1) (.mk 2 0 1 [] []) ((hx2.ob _ (by have:=hx1.nx;omega)).trans ((hx1.ob _ (by omega)).trans o1)) ((hx2.ob _ (by have:=hx1.nx;omega)).trans ((hx1.ob _ (by omega)).trans o2))) ?_))))))
  rintro _ _ ⟨rfl,hq⟩
  obtain rfl:=hq.symm
  refine qg rfl (hcall rfl rfl rfl (Check_c _ ((hQ1.ext hx1).ext hx2) (cutP (.mk 2 0 1 [] [])) z2.hc z2.fv z2.bz z2.fl) ?_)
  rintro _ S3 ⟨rfl,hx3⟩
  rw [aw_check2]
  refine qg rfl (qp rfl (qb ?_))
  rintro (_ | _) h2
  ·refine qp rfl (qp rfl (qs rfl rfl (by decide) (qs rfl rfl (by decide) (qp rfl (qp rfl (qs rfl rfl (by decide) (qs rfl rfl (by decide) (qp rfl (qp rfl (qk (kc rfl kn) kn (sqn (eret (fqr rfl ?_)))))))))))))
   first
   | exact ⟨rfl,x0.trans (hx1.trans (hx2.trans hx3))⟩
   | (exfalso;simp at h1;done)
   | (exfalso;simp at h2;done)
   | (exfalso;simp at h3;done)
  ·refine qp rfl (qp rfl (qg rfl (qp rfl (qg rfl (qp rfl (qb ?_))))))
   rintro (_ | _) h3
   ·refine qp rfl (qp rfl (qs rfl rfl (by decide) (qs rfl rfl (by decide) (qp rfl (qp rfl (qk (kc rfl kn) kn (sqn (eret (fqr rfl ?_)))))))))
    first
    | exact ⟨rfl,x0.trans (hx1.trans (hx2.trans hx3))⟩
    | (exfalso;simp at h1;done)
    | (exfalso;simp at h2;done)
    | (exfalso;simp at h3;done)
   ·refine qp rfl (qp rfl (qg rfl (qp rfl (qg rfl (qp rfl (qp rfl (qp rfl (qk (kc rfl kn) kn (sqn (eret (fqr rfl ?_)))))))))))
    first
    | exact ⟨rfl,x0.trans (hx1.trans (hx2.trans hx3))⟩
    | (exfalso;simp at h1;done)
    | (exfalso;simp at h2;done)
    | (exfalso;simp at h3;done)
theorem KindForms_c (s:Sg) (hQ:QOK s) (c:Core) (hz:c.sz ≤ 2 ^ 40):HC p N3_ [.agg (Core.cs c)] s (fun r s'=>r=[B true]):=by
 have hc:=SzC.of hz
 refine hcf rfl f3_ rfl ?_
 simp only [chainOf]
 refine eseq (ereg (hbox (dc dn rfl) rfl (lc rfl (lc rfl (ln rfl))) (qp rfl (qk (kc rfl kn) (kc rfl kn) (sqn (eseq (eseq (ereg (hlda rfl rfl (lc rfl (lc rfl (ln rfl))) (hcall rfl rfl rfl (Few_c _ c hc.z 3000 (by omega) (by omega)) ?_))))))))))
 rintro _ _ ⟨rfl,hq⟩
 obtain rfl:=hq.symm
 refine qb ?_
 rintro (_ | _) h1
 ·refine qp rfl (qk (kc rfl (kc rfl kn)) (kc rfl kn) (sqn (ecT rfl (eseq (ereg (hcall rfl rfl rfl (awake_c _ hQ) ?_))))))
  rintro _ S9 ⟨rfl,hx9⟩
  refine qp rfl (qk (kc rfl kn) kn (sqn (eret (sqr (fqr rfl ?_)))))
  first
  | rfl
  | (exfalso;simp_all;done)
 ·refine qp rfl (qk (kc rfl (kc rfl kn)) (kc rfl kn) (sqn (ecF rfl (eskip (sqn (eseq (ereg (hlda rfl rfl (lc rfl (lc rfl (ln rfl))) (hcall rfl rfl rfl (Check_c _ hQ c hc.hc hc.fv hc.bz hc.fl) ?_)))))))))
  rintro _ S1 ⟨rfl,hx1⟩
  refine qp rfl (qk (kc rfl (kc rfl kn)) (kc rfl kn) (sqn (eseq (eseq (ereg (hlda rfl rfl (lc rfl (lc rfl (ln rfl))) (hcall rfl rfl rfl (Is6_c _ c hc.hc hc.fz hc.fl) ?_)))))))
  rintro _ S2 ⟨rfl,hx2⟩
  refine qb ?_
  rintro (_ | _) h2
  ·refine qp rfl (qk (kc rfl (kc rfl (kc rfl kn))) (kc rfl kn) (sqn (ecT rfl (eseq (ereg (qp rfl (qp rfl (qb ?_))))))))
   rintro (_ | _) h3
   ·refine qp rfl (qs rfl rfl (by decide) (qp rfl (qp rfl (qk (kc rfl kn) kn (sqn (eret (sqr (fqr rfl ?_))))))))
    first
    | rfl
    | (exfalso;simp_all;done)
   ·refine qp rfl (qg rfl (hcall rfl rfl rfl (awake_c _ ((hQ.ext hx1).ext hx2)) ?_))
    rintro _ S9 ⟨rfl,hx9⟩
    refine qp rfl (qp rfl (qk (kc rfl kn) kn (sqn (eret (sqr (fqr rfl ?_))))))
    first
    | rfl
    | (exfalso;simp_all;done)
  ·refine qp rfl (qk (kc rfl (kc rfl (kc rfl kn))) (kc rfl kn) (sqn (ecF rfl (eskip (sqn (eseq (eseq (ereg (hlda rfl rfl (lc rfl (lc rfl (ln rfl))) (hcall rfl rfl rfl (rIs_c _ c hc.hc (by assumption) hc.bz hc.fl) ?_))))))))))
   rintro _ S3 ⟨rfl,hx3⟩
   refine qb ?_
   rintro (_ | _) h4
   ·refine qp rfl (qk (kc rfl (kc rfl kn)) kn (sqn (ecT rfl (eseq (ereg (qp rfl (qp rfl (qb ?_))))))))
    rintro (_ | _) h5
    ·refine qp rfl (qs rfl rfl (by decide) (qp rfl (qp rfl (qk (kc rfl kn) kn (sqn (eret (sqr (fqr rfl ?_))))))))
     first
     | rfl
     | (exfalso;simp_all;done)
    ·refine qp rfl (qg rfl (hcall rfl rfl rfl (awake_c _ (((hQ.ext hx1).ext hx2).ext hx3)) ?_))
     rintro _ S9 ⟨rfl,hx9⟩
     refine qp rfl (qp rfl (qk (kc rfl kn) kn (sqn (eret (sqr (fqr rfl ?_))))))
     first
     | rfl
     | (exfalso;simp_all;done)
   ·refine qp rfl (qk (kc rfl (kc rfl kn)) kn (sqn (ecF rfl (eskip (sqn (eseq (ereg (qp rfl (qp rfl (qb ?_))))))))))
    rintro (_ | _) h6
    ·refine qp rfl (qs rfl rfl (by decide) (qp rfl (qp rfl (qk (kc rfl kn) kn (sqn (eret (fqr rfl ?_)))))))
     first
     | rfl
     | (exfalso;simp_all;done)
    ·refine qp rfl (qg rfl (hcall rfl rfl rfl (awake_c _ (((hQ.ext hx1).ext hx2).ext hx3)) ?_))
     rintro _ S9 ⟨rfl,hx9⟩
     refine qp rfl (qp rfl (qk (kc rfl kn) kn (sqn (eret (fqr rfl ?_)))))
     first
     | rfl
     | (exfalso;simp_all;done)
theorem typeR_two (c:Core) (xs as g0 g1:List Int) (a:Node):∃ t e,typeR c xs as g0 g1 a=[I t,I e] ∧ (coreOk c=false → t=0 ∧ e=60) ∧ (coreOk c=true → askB c xs as g0 g1 a=false → t=0 ∧ e=1) ∧
 (coreOk c=true → askB c xs as g0 g1 a=true → (match tN c.decls c.funs a (bindL (fun _=>none) xs g0) (bindL (fun _=>none) as g1) with
   | some u=>t=u ∧ e=0
   | none=>t=0 ∧ e=70)):=by
 cases h:coreOk c with
 | false=>exact ⟨0,60,typeR_core h,fun _=>⟨rfl,rfl⟩,fun h=>(by cases h),fun h=>(by cases h)⟩
 | true =>
   cases h2:askB c xs as g0 g1 a with
   | false=>exact ⟨0,1,typeR_ask h (by simp [h2]),fun h=>(by cases h),fun _ _=>⟨rfl,rfl⟩,fun _ h=>(by cases h)⟩
   | true =>
     rw [typeR_ok h h2]
     cases tN c.decls c.funs a (bindL (fun _=>none) xs g0) (bindL (fun _=>none) as g1) with
     | none=>exact ⟨0,70,rfl,fun h=>(by cases h),fun _ h=>(by cases h),fun _ _=>⟨rfl,rfl⟩⟩
     | some u=>exact ⟨u,0,rfl,fun h=>(by cases h),fun _ h=>(by cases h),fun _ _=>⟨rfl,rfl⟩⟩
theorem KindTypes_c (s:Sg) (hQ:QOK s) (c:Core) (xs as g0 g1:List Int) (nd:Node) (hcz:c.sz ≤ 2 ^ 40) (h1x:xs.length ≤ 2 ^ 40) (h1a:as.length ≤ 2 ^ 40) (h10:g0.length ≤ 2 ^ 40) (h11:g1.length ≤ 2 ^ 40) (hz:nd.sz ≤ 2 ^ 40):HC p N4_ [.agg (Core.cs c),ints xs,ints as,.agg [ints g0,ints g1],.agg nd.cs] s (fun r s'=>r=[B true]):=by
 have hc:=SzC.of hcz
 obtain ⟨tt,ee,hte,hA,hB,hC⟩:=typeR_two c xs as g0 g1 nd
 refine hcf rfl f4_ rfl ?_
 simp only [chainOf]
 refine eseq (ereg (hbox (dc (dc (dc (dc (dc dn rfl) rfl) rfl) rfl) rfl) rfl (lc rfl (lc rfl (ln rfl))) (hbox (dc (dc (dc (dc (dc (dc dn rfl) rfl) rfl) rfl) rfl) rfl) rfl (lc rfl (lc rfl (ln rfl))) (hbox (dc (dc (dc (dc (dc (dc (dc dn rfl) rfl) rfl) rfl) rfl) rfl) rfl) rfl (lc rfl (lc rfl (lc rfl (lc rfl (lc rfl (ln rfl)))))) (qp rfl (qk (kc rfl (kc rfl (kc rfl (kc rfl (kc rfl kn))))) (kc rfl (kc rfl (kc rfl kn))) (sqn (eseq (eseq (ereg (hlda rfl rfl (lc rfl (lc rfl (ln rfl))) (hcall rfl rfl rfl (Few_c _ c hc.z 3000 (by omega) (by omega)) ?_))))))))))))
 rintro _ _ ⟨rfl,hq⟩
 obtain rfl:=hq.symm
 refine qb ?_
 rintro (_ | _) h1
 ·refine qp rfl (qp rfl (qs rfl rfl (by decide) (qs rfl rfl (by decide) (qs rfl rfl (by decide) (qp rfl (qk (kc rfl (kc rfl (kc rfl (kc rfl (kc rfl (kc rfl kn)))))) (kc rfl (kc rfl (kc rfl kn))) (sqn (ecT rfl (eseq (ereg (hcall rfl rfl rfl (awake_c _ hQ) ?_)))))))))))
  rintro _ S9 ⟨rfl,hx9⟩
  refine qp rfl (qk (kc rfl kn) kn (sqn (eret (sqr (fqr rfl ?_)))))
  first
  | rfl
  | (exfalso;have q:=hA (by assumption);simp_all;done)
  | (exfalso;have q:=hB (by assumption) (by assumption);simp_all;done)
  | (exfalso;cases b <;> simp_all;done)
 ·refine qp rfl (qp rfl (qg rfl (hlda rfl rfl (lc rfl (lc rfl (lc rfl (lc rfl (lc rfl (ln rfl)))))) (qg rfl (hcall rfl rfl rfl (Fits_c _ nd hz 3000 (by omega) (by omega)) ?_)))))
  rintro _ _ ⟨rfl,hq⟩
  obtain rfl:=hq.symm
  refine qb ?_
  rintro (_ | _) h2
  ·refine qg rfl (qp rfl (qp rfl (qk (kc rfl (kc rfl (kc rfl (kc rfl (kc rfl (kc rfl kn)))))) (kc rfl (kc rfl (kc rfl kn))) (sqn (ecT rfl (eseq (ereg (hcall rfl rfl rfl (awake_c _ hQ) ?_))))))))
   rintro _ S9 ⟨rfl,hx9⟩
   refine qp rfl (qk (kc rfl kn) kn (sqn (eret (sqr (fqr rfl ?_)))))
   first
   | rfl
   | (exfalso;have q:=hA (by assumption);simp_all;done)
   | (exfalso;have q:=hB (by assumption) (by assumption);simp_all;done)
   | (exfalso;cases b <;> simp_all;done)
  ·refine qg rfl (qp rfl (qp rfl (qk (kc rfl (kc rfl (kc rfl (kc rfl (kc rfl (kc rfl kn)))))) (kc rfl (kc rfl (kc rfl kn))) (sqn (ecF rfl (eskip (sqn (eseq (ereg (hlda rfl rfl (lc rfl (lc rfl (ln rfl))) (qp rfl (qp rfl (hlda rfl rfl (lc rfl (lc rfl (ln rfl))) (hlda rfl rfl (lc rfl (lc rfl (lc rfl (lc rfl (lc rfl (ln rfl)))))) (hcall rfl rfl rfl (Type_c _ hQ c hc.hc hc.fv hc.bz xs as g0 g1 nd h1x h1a hz) ?_)))))))))))))))
   rintro _ S1 ⟨rfl,hx1⟩
   rw [hte]
   refine qp rfl (qp rfl (qp rfl (qp rfl (qp rfl (qk (kc rfl (kc rfl (kc rfl (kc rfl (kc rfl (kc rfl (kc rfl kn))))))) (kc rfl (kc rfl (kc rfl kn))) (sqn (eseq (eseq (ereg (hlda rfl rfl (lc rfl (lc rfl (ln rfl))) (hcall rfl rfl rfl (Is6_c _ c hc.hc hc.fz hc.fl) ?_)))))))))))
   rintro _ S2 ⟨rfl,hx2⟩
   refine qb ?_
   rintro (_ | _) h3
   ·refine qp rfl (qk (kc rfl (kc rfl (kc rfl (kc rfl (kc rfl (kc rfl (kc rfl (kc rfl kn)))))))) (kc rfl (kc rfl (kc rfl kn))) (sqn (ecT rfl (eseq (ereg (qp rfl (qp rfl (qb ?_))))))))
    rintro (_ | _) h4
    ·refine qp rfl (qs rfl rfl (by decide) (qs rfl rfl (by decide) (qp rfl (qp rfl (qs rfl rfl (by decide) (qp rfl (qp rfl (qk (kc rfl kn) kn (sqn (eret (sqr (fqr rfl ?_))))))))))))
     first
     | rfl
     | (exfalso;have q:=hA (by assumption);simp_all;done)
     | (exfalso;have q:=hB (by assumption) (by assumption);simp_all;done)
     | (exfalso;cases b <;> simp_all;done)
    ·refine qp rfl (qg rfl (qp rfl (qg rfl (qp rfl (qb ?_)))))
     rintro (_ | _) h5
     ·refine qp rfl (qp rfl (qs rfl rfl (by decide) (qp rfl (qp rfl (qk (kc rfl kn) kn (sqn (eret (sqr (fqr rfl ?_)))))))))
      first
      | rfl
      | (exfalso;have q:=hA (by assumption);simp_all;done)
      | (exfalso;have q:=hB (by assumption) (by assumption);simp_all;done)
      | (exfalso;cases b <;> simp_all;done)
     ·refine qp rfl (qp rfl (qg rfl (hcall rfl rfl rfl (awake_c _ ((hQ.ext hx1).ext hx2)) ?_)))
      rintro _ S9 ⟨rfl,hx9⟩
      refine qp rfl (qp rfl (qk (kc rfl kn) kn (sqn (eret (sqr (fqr rfl ?_))))))
      first
      | rfl
      | (exfalso;have q:=hA (by assumption);simp_all;done)
      | (exfalso;have q:=hB (by assumption) (by assumption);simp_all;done)
      | (exfalso;cases b <;> simp_all;done)
   ·refine qp rfl (qk (kc rfl (kc rfl (kc rfl (kc rfl (kc rfl (kc rfl (kc rfl (kc rfl kn)))))))) (kc rfl (kc rfl (kc rfl kn))) (sqn (ecF rfl (eskip (sqn (eseq (eseq (ereg (hlda rfl rfl (lc rfl (lc rfl (ln rfl))) (qp rfl (qp rfl (hlda rfl rfl (lc rfl (lc rfl (ln rfl))) (hlda rfl rfl (lc rfl (lc rfl (lc rfl (lc rfl (lc rfl (ln rfl)))))) (hcall rfl rfl rfl (asked_c _ c hc xs as g0 g1 nd h1x h1a h10 h11 hz) ?_))))))))))))))
    rintro _ S3 ⟨rfl,hx3⟩
    refine qb ?_
    rintro (_ | _) h6
    ·refine qp rfl (qk (kc rfl (kc rfl (kc rfl (kc rfl (kc rfl (kc rfl (kc rfl (kc rfl kn)))))))) (kc rfl (kc rfl (kc rfl kn))) (sqn (ecT rfl (eseq (ereg (qp rfl (qp rfl (qb ?_))))))))
     rintro (_ | _) h7
     ·refine qp rfl (qs rfl rfl (by decide) (qs rfl rfl (by decide) (qp rfl (qp rfl (qs rfl rfl (by decide) (qp rfl (qp rfl (qk (kc rfl kn) kn (sqn (eret (sqr (fqr rfl ?_))))))))))))
      first
      | rfl
      | (exfalso;have q:=hA (by assumption);simp_all;done)
      | (exfalso;have q:=hB (by assumption) (by assumption);simp_all;done)
      | (exfalso;cases b <;> simp_all;done)
     ·refine qp rfl (qg rfl (qp rfl (qg rfl (qp rfl (qb ?_)))))
      rintro (_ | _) h8
      ·refine qp rfl (qp rfl (qs rfl rfl (by decide) (qp rfl (qp rfl (qk (kc rfl kn) kn (sqn (eret (sqr (fqr rfl ?_)))))))))
       first
       | rfl
       | (exfalso;have q:=hA (by assumption);simp_all;done)
       | (exfalso;have q:=hB (by assumption) (by assumption);simp_all;done)
       | (exfalso;cases b <;> simp_all;done)
      ·refine qp rfl (qp rfl (qg rfl (hcall rfl rfl rfl (awake_c _ (((hQ.ext hx1).ext hx2).ext hx3)) ?_)))
       rintro _ S9 ⟨rfl,hx9⟩
       refine qp rfl (qp rfl (qk (kc rfl kn) kn (sqn (eret (sqr (fqr rfl ?_))))))
       first
       | rfl
       | (exfalso;have q:=hA (by assumption);simp_all;done)
       | (exfalso;have q:=hB (by assumption) (by assumption);simp_all;done)
       | (exfalso;cases b <;> simp_all;done)
    ·refine qp rfl (qk (kc rfl (kc rfl (kc rfl (kc rfl (kc rfl (kc rfl (kc rfl (kc rfl kn)))))))) (kc rfl (kc rfl (kc rfl kn))) (sqn (ecF rfl (eskip (sqn (eseq (ereg ?_)))))))
     have gk:askB c xs as g0 g1 nd=true:=by assumption
     have gc:coreOk c=true:=by assumption
     have hk:=ask_iff.1 gk
     have hs0:xs.length=g0.length:=by have:=hk.1;simp only [sideOk,Bool.and_eq_true,decide_eq_true_eq] at this;exact this.1
     have hs1:as.length=g1.length:=by have:=hk.2.1;simp only [sideOk,Bool.and_eq_true,decide_eq_true_eq] at this;exact this.1
     have hvn:vN c.decls c.funs nd (dom (bindL (fun _=>none) xs g0)) (dom (bindL (fun _=>none) as g1))=true:=by
      rw [dom_bindL _ _ _ hs0,dom_bindL _ _ _ hs1]
      exact hk.2.2.1
     have hC1:=hC gc gk
     refine qp rfl (qp rfl (qp rfl (qp rfl (qp rfl (qp rfl (hcall rfl rfl rfl (rNew_c _ xs g0 as g1 h1x h1a hs0 hs1) ?_))))))
     rintro _ S4 ⟨o,ix,ia,rfl,hR4,hx4,ho,hx,hia⟩
     refine hlda rfl rfl (lc rfl (lc rfl (ln rfl))) (hlda rfl rfl (lc rfl (lc rfl (lc rfl (lc rfl (lc rfl (ln rfl)))))) (hcall rfl rfl rfl (rtype_c c hc.hc nd hz _ o ix ia _ _ hR4 hvn) ?_))
     rintro _ S5 ⟨u,b,rfl,hu,hR5,hc5⟩
     have hx35:Ext S3 S5:=(hx4.chg.trans hc5).ext fun i h=>by rcases h with h | h <;> omega
     rw [← hu] at hC1
     refine qp rfl (qp rfl (qp rfl (qb ?_)))
     rintro (_ | _) h9
     ·refine qp rfl (qp rfl (qk (kc rfl (kc rfl (kc rfl (kc rfl kn)))) kn (sqn (eseq (eseq (ereg (qp rfl (qp rfl (qk (kc rfl (kc rfl (kc rfl (kc rfl kn)))) kn (sqn (ecT rfl (eseq (ereg (qp rfl (qp rfl (qb ?_))))))))))))))))
      rintro (_ | _) h10
      ·refine qp rfl (qs rfl rfl (by decide) (qs rfl rfl (by decide) (qp rfl (qp rfl (qs rfl rfl (by decide) (qp rfl (qp rfl (qk (kc rfl kn) kn (sqn (eret (sqr (fqr rfl ?_))))))))))))
       first
       | rfl
       | (exfalso;have q:=hA (by assumption);simp_all;done)
       | (exfalso;have q:=hB (by assumption) (by assumption);simp_all;done)
       | (exfalso;cases b <;> simp_all;done)
      ·refine qp rfl (qg rfl (qp rfl (qg rfl (qp rfl (qb ?_)))))
       rintro (_ | _) h11
       ·refine qp rfl (qp rfl (qs rfl rfl (by decide) (qp rfl (qp rfl (qk (kc rfl kn) kn (sqn (eret (sqr (fqr rfl ?_)))))))))
        first
        | rfl
        | (exfalso;have q:=hA (by assumption);simp_all;done)
        | (exfalso;have q:=hB (by assumption) (by assumption);simp_all;done)
        | (exfalso;cases b <;> simp_all;done)
       ·refine qp rfl (qp rfl (qg rfl (hcall rfl rfl rfl (awake_c _ ((((hQ.ext hx1).ext hx2).ext hx3).ext hx35)) ?_)))
        rintro _ S9 ⟨rfl,hx9⟩
        refine qp rfl (qp rfl (qk (kc rfl kn) kn (sqn (eret (sqr (fqr rfl ?_))))))
        first
        | rfl
        | (exfalso;have q:=hA (by assumption);simp_all;done)
        | (exfalso;have q:=hB (by assumption) (by assumption);simp_all;done)
        | (exfalso;cases b <;> simp_all;done)
     ·refine qp rfl (qp rfl (qk (kc rfl (kc rfl (kc rfl (kc rfl kn)))) kn (sqn (eseq (eseq (ereg (qp rfl (qp rfl (qk (kc rfl (kc rfl (kc rfl (kc rfl kn)))) kn (sqn (ecF rfl (eskip (sqn (eseq (ereg (qp rfl (qp rfl (qb ?_))))))))))))))))))
      rintro (_ | _) h12
      ·refine qp rfl (qs rfl rfl (by decide) (qs rfl rfl (by decide) (qs rfl rfl (by decide) (qp rfl (qp rfl (qs rfl rfl (by decide) (qp rfl (qp rfl (qk (kc rfl kn) kn (sqn (eret (fqr rfl ?_))))))))))))
       first
       | rfl
       | (exfalso;have q:=hA (by assumption);simp_all;done)
       | (exfalso;have q:=hB (by assumption) (by assumption);simp_all;done)
       | (exfalso;cases b <;> simp_all;done)
      ·refine qp rfl (qg rfl (qp rfl (qg rfl (qp rfl (qg rfl (qp rfl (qb ?_)))))))
       rintro (_ | _) h13
       ·refine qp rfl (qp rfl (qs rfl rfl (by decide) (qp rfl (qp rfl (qk (kc rfl kn) kn (sqn (eret (fqr rfl ?_))))))))
        first
        | rfl
        | (exfalso;have q:=hA (by assumption);simp_all;done)
        | (exfalso;have q:=hB (by assumption) (by assumption);simp_all;done)
        | (exfalso;cases b <;> simp_all;done)
       ·refine qp rfl (qp rfl (qg rfl (hcall rfl rfl rfl (awake_c _ ((((hQ.ext hx1).ext hx2).ext hx3).ext hx35)) ?_)))
        rintro _ S9 ⟨rfl,hx9⟩
        refine qp rfl (qp rfl (qk (kc rfl kn) kn (sqn (eret (fqr rfl ?_)))))
        first
        | rfl
        | (exfalso;have q:=hA (by assumption);simp_all;done)
        | (exfalso;have q:=hB (by assumption) (by assumption);simp_all;done)
        | (exfalso;cases b <;> simp_all;done)
end Go.Sim.Kd
