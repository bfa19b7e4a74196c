/-
  A part of a proof: see the last text of this claim.
-/
import Derived.Test.YthmnidlbohgmiaaPH
import Derived.Test.YthmnidlbohgmiaaPF
import Derived.Test.YthmnidlbohgmiaaPE
set_option linter.unusedVariables false
set_option linter.unusedSimpArgs false
namespace Go.Sim.Kd
open Go Go.Sim
structure RT (o ix ia:Nat) (X A:Int → Option Int) (S:Sg):Prop where
 hO:S.ob o=some (.row [.map ix,.map ia])
 h0:S.ob ix=some (.map (.int .i64) (tyM X))
 h1:S.ob ia=some (.map (.int .i64) (tyM A))
 lo:o < S.nx
 l0:ix < S.nx
 l1:ia < S.nx
 ne:ix ≠ ia
 o0:o ≠ ix
 o1:o ≠ ia
end Go.Sim.Kd
namespace Go.Sim.Kd
open Go Go.Sim
end Go.Sim.Kd
namespace Go.Sim.Kd
open Go Go.Sim
end Go.Sim.Kd
namespace Go.Sim.Kd
open Go Go.Sim
structure SzC (c:Core):Prop where
 z:c.sz ≤ 2 ^ 40
 hc:CoreSz c
 fv:∀ g ∈ c.funs,g.vars.length ≤ 2 ^ 40
 bz:∀ g ∈ c.funs,g.body.sz ≤ 2 ^ 40
 fl:c.funs.length ≤ 2 ^ 40
 fz:szL CFun.sz c.funs ≤ 2 ^ 40
theorem SzC.of {c:Core} (h:c.sz ≤ 2 ^ 40):SzC c:=by
 unfold Core.sz at h
 have hd:c.decls.length ≤ szL Decl.sz c.decls:=szL_len fun d=>by unfold Decl.sz;omega
 have hf:c.funs.length ≤ szL CFun.sz c.funs:=szL_len CFun.sz_pos
 have hg:∀ g ∈ c.funs,g.sz ≤ 2 ^ 40:=fun g hg=>by have:=szL_mem (f:=CFun.sz) hg;omega
 refine ⟨by unfold Core.sz;omega,⟨by omega,fun d hd x hx=>?_,fun g hg'=>?_⟩,fun g hg'=>?_,fun g hg'=>?_,by omega,by omega⟩
 ·have h1:=szL_mem (f:=Decl.sz) hd
  have h2:=szL_mem (f:=Xtor.sz) hx
  have e1:d.sz=1 + d.name.size + szL Xtor.sz d.xtors:=rfl
  have e2:x.sz=1 + x.name.size + x.args.length:=rfl
  omega
 ·have:=hg g hg';unfold CFun.sz at this;omega
 ·have:=hg g hg';unfold CFun.sz at this;omega
 ·have:=hg g hg';unfold CFun.sz at this;omega
theorem QOK.ext {s s':Sg} (h:QOK s) (e:Ext s s'):QOK s':=by
 unfold QOK
 rw [e.Q]
 exact h
def listD:Decl:=⟨⟨#[108,105,115,116]⟩,false,[⟨⟨#[78,105,108]⟩,[]⟩]⟩
def doneN:Node:=.mk 7 0 0 [.mk 14 0 0 [.mk 0 0 0 [] []] []] []
def doneF:List AV:=[I 7,I 0,I 0,.slice .full 5 [.agg [I 14,I 0,I 0,SL 5 [.agg [I 0,I 0,I 0,SL 5 [],SL 7 []]],SL 7 []]],.slice .full 7 []]
theorem doneF_er:(AV.agg doneF).er=.agg doneN.cs:=by
 show _=AV.agg [I 7,I 0,I 0,SL 5 [(Node.mk 14 0 0 [.mk 0 0 0 [] []] []).enc],SL 7 []]
 rw [Node.enc_eq]
 show _=AV.agg [I 7,I 0,I 0,SL 5 [.agg [I 14,I 0,I 0,SL 5 [(Node.mk 0 0 0 [] []).enc],SL 7 []]],SL 7 []]
 rw [Node.enc_eq]
 rfl
def cutP (x:Node):Core:=⟨[listD],[⟨⟨#[109,97,105,110]⟩,[],[],.mk 9 0 0 [x,doneN] []⟩]⟩
theorem awc1_c (s:Sg) (o:Own) (q1 q2:Nat) (x:Node) (h1:s.ob q1=some (.row [.slice o 3 [listD.enc]])) (h2:s.ob q2=some (.row doneF)):HC p N43_ [.agg x.cs,.ptr q1 0,.ptr q2 0] s (fun r s'=>r=[.agg (Core.cs (cutP x))] ∧ s'=s):=by
 refine hcf rfl f43_ rfl ?_
 simp only [chainOf]
 refine eseq (ereg (hbox (dc (dc (dc dn rfl) rfl) rfl) rfl (lc rfl (lc rfl (lc rfl (lc rfl (lc rfl (ln rfl)))))) (hal (dc (dc (dc (dc dn rfl) rfl) rfl) rfl) (qk (kc rfl (kc rfl (kc rfl (kc rfl kn)))) (kc rfl (kc rfl kn)) (sqn (eseq (ereg (hldo rfl h1 rfl ?_))))))))
 refine hlda rfl rfl (lc rfl (lc rfl (lc rfl (lc rfl (lc rfl (ln rfl)))))) (hldo rfl h2 rfl ?_)
 refine hbsl rfl rfl (lc rfl (lc rfl (ln rfl))) (hbuild rfl rfl (lc rfl (lc rfl (lc rfl (lc rfl (lc rfl (ln rfl)))))) (hbuild rfl rfl (lc rfl (lc rfl (lc rfl (lc rfl (lc rfl (lc rfl (lc rfl (lc rfl (ln rfl))))))))) (hbsl rfl rfl (lc rfl (ln rfl)) (hbuild rfl rfl (lc rfl (lc rfl (ln rfl))) (hstl rfl rfl rfl rfl (Nat.le_of_ble_eq_true rfl) (lc rfl (lc rfl (ln rfl))) (qk (kc rfl kn) (kc rfl kn) (sqn (eret (fqr rfl ?_)))))))))
 refine ⟨?_,rfl⟩
 have e:(Node.mk 9 0 0 [x,doneN] []).cs=[I 9,I 0,I 0,SL 5 [.agg x.cs,.agg doneN.cs],SL 7 []]:=by
  show [I 9,I 0,I 0,SL 5 [x.enc,doneN.enc],SL 7 []]=_
  rw [Node.enc_eq x,Node.enc_eq doneN]
 simp only [Core.cs,cutP,List.map_cons,List.map_nil,CFun.enc_eq]
 rw [e,← doneF_er]
 rfl
theorem aw_type:typeR (cutP (.mk 1 3 0 [] [])) [4,4] [] [0,1] [] (.mk 0 4 0 [] [])=[I 1,I 0]:=by rfl
theorem aw_check1:(if coreOk (cutP (.mk 1 3 0 [] []))=true then (if typedOk2 (cutP (.mk 1 3 0 [] []))=true then (0:Int) else 70) else 60)=0:=by rfl
theorem aw_check2:(if coreOk (cutP (.mk 2 0 1 [] []))=true then (if typedOk2 (cutP (.mk 2 0 1 [] []))=true then (0:Int) else 70) else 60)=70:=by rfl
theorem h_gen {c:Caller} {l:List AIns} {E:Nat → Option TV} {L:Nat → Option (List AV)} {n:Nat} {v:Nat → Bool} {D:List (Nat × List AV)} {S S':Sg} {Q:Fr → Prop} (e:S=S') (h:HL c l ⟨E,L,n,v,D,S'⟩ Q):HL c l ⟨E,L,n,v,D,S⟩ Q:=by
 subst e;exact h
theorem awake_c (s:Sg) (hQ:QOK s):HC p N11_ [] s (fun r s'=>r=[B true] ∧ Ext s s'):=by
 have z1:=SzC.of (c:=cutP (.mk 1 3 0 [] [])) (by decide)
 have z2:=SzC.of (c:=cutP (.mk 2 0 1 [] [])) (by decide)
 refine hcf rfl f11_ rfl ?_
 simp only [chainOf]
 refine eseq (ereg (qp rfl (qk kn kn (sqn (eseq (ereg (hbuild rfl rfl (lc rfl (lc rfl (ln rfl))) (hbsl rfl rfl (lc rfl (ln rfl)) (hbuild rfl rfl (lc rfl (lc rfl (lc rfl (ln rfl)))) (hbsl rfl rfl (lc rfl (ln rfl)) (hall (hsto (cs':=[.slice .full 3 [listD.enc]]) rfl rfl new_ob rfl (Nat.le_of_ble_eq_true rfl) (by simp) (by rfl) (qk (kc rfl kn) kn (sqn (eseq (ereg (hbuild rfl rfl (lc rfl (lc rfl (lc rfl (lc rfl (lc rfl (ln rfl)))))) (hbsl rfl rfl (lc rfl (ln rfl)) (hbuild rfl rfl (lc rfl (lc rfl (lc rfl (lc rfl (lc rfl (ln rfl)))))) (hbsl rfl rfl (lc rfl (ln rfl)) (hbuild rfl rfl (lc rfl (lc rfl (lc rfl (lc rfl (lc rfl (ln rfl)))))) (hall (hsto (cs':=doneF) rfl rfl new_ob rfl (Nat.le_of_ble_eq_true rfl) (by simp) (by rfl) ?_)))))))))))))))))))))))
 have o1:((((s.new (.row [.slice .full 3 []])).set s.nx (.row [.slice .full 3 [listD.enc]])).new (.row [.lit (.int .i64 0),.lit (.int .i64 0),.lit (.int .i64 0),.slice .full 5 [],.slice .full 7 []])).set (s.nx + 1) (.row doneF)).ob s.nx=some (.row [.slice .full 3 [listD.enc]]):=by
  rw [set_ne (by omega),new_lt (by show s.nx < s.nx + 1;omega),set_ob]
 have o2:((((s.new (.row [.slice .full 3 []])).set s.nx (.row [.slice .full 3 [listD.enc]])).new (.row [.lit (.int .i64 0),.lit (.int .i64 0),.lit (.int .i64 0),.slice .full 5 [],.slice .full 7 []])).set (s.nx + 1) (.row doneF)).ob (s.nx + 1)=some (.row doneF):=set_ob
 have x0:Ext s ((((s.new (.row [.slice .full 3 []])).set s.nx (.row [.slice .full 3 [listD.enc]])).new (.row [.lit (.int .i64 0),.lit (.int .i64 0),.lit (.int .i64 0),.slice .full 5 [],.slice .full 7 []])).set (s.nx + 1) (.row doneF)):=(((Ext.new).set (Nat.le_refl _)).trans Ext.new).set (by omega)
 have n0:s.nx + 1 < ((((s.new (.row [.slice .full 3 []])).set s.nx (.row [.slice .full 3 [listD.enc]])).new (.row [.lit (.int .i64 0),.lit (.int .i64 0),.lit (.int .i64 0),.slice .full 5 [],.slice .full 7 []])).set (s.nx + 1) (.row doneF)).nx:=by show s.nx + 1 < s.nx + 2;omega
 refine h_gen (S':=(((s.new (.row [.slice .full 3 []])).set s.nx (.row [.slice .full 3 [listD.enc]])).new (.row [.lit (.int .i64 0),.lit (.int .i64 0),.lit (.int .i64 0),.slice .full 5 [],.slice .full 7 []])).set (s.nx + 1) (.row doneF)) rfl ?_
 generalize ((((s.new (.row [.slice .full 3 []])).set s.nx (.row [.slice .full 3 [listD.enc]])).new (.row [.lit (.int .i64 0),.lit (.int .i64 0),.lit (.int .i64 0),.slice .full 5 [],.slice .full 7 []])).set (s.nx + 1) (.row doneF))=S0 at o1 o2 x0 n0 ⊢
 have hQ1:=hQ.ext x0
 refine qk (kc rfl (kc rfl kn)) kn (sqn (eseq (ereg (qp rfl (qp rfl (qk (kc rfl kn) kn (sqn (eseq (ereg (qp rfl (hbuild rfl rfl (lc rfl (lc rfl (lc rfl (lc rfl (lc rfl (ln rfl)))))) (hcall rfl rfl rfl (awc1_c _ .full s.nx (s.nx + 1) (.mk 1 3 0 [] []) o1 o2) ?_))))))))))))
 rintro _ _ ⟨rfl,hq⟩
 obtain rfl:=hq.symm
 refine hal (dc (dc (dc (dc dn rfl) rfl) rfl) rfl) (hstl rfl rfl rfl rfl (Nat.le_of_ble_eq_true rfl) (lc rfl (lc rfl (ln rfl))) (qk (kc rfl (kc rfl kn)) (kc rfl kn) (sqn (eseq (ereg (hlda rfl rfl (lc rfl (lc rfl (ln rfl))) (hbsl rfl rfl (lc rfl (lc rfl (ln rfl))) (hbsl rfl rfl (lc rfl (lc rfl (ln rfl))) (hbuild rfl rfl (lc rfl (lc rfl (ln rfl))) (hbuild rfl rfl (lc rfl (lc rfl (lc rfl (lc rfl (lc rfl (ln rfl)))))) (hcall rfl rfl rfl (Type_c _ hQ1 (cutP (.mk 1 3 0 [] [])) z1.hc z1.fv z1.bz [4,4] [] [0,1] [] (.mk 0 4 0 [] []) (by decide) (by decide) (by decide)) ?_)))))))))))
 rintro _ S1 ⟨rfl,hx1⟩
 rw [aw_type]
 refine qp rfl (qp rfl (qp rfl (qp rfl (qp rfl (qk (kc rfl (kc rfl (kc rfl (kc rfl kn)))) (kc rfl kn) (sqn (eseq (ereg (hlda rfl rfl (lc rfl (lc rfl (ln rfl))) (hcall rfl rfl rfl (Check_c _ (hQ1.ext hx1) (cutP (.mk 1 3 0 [] [])) z1.hc z1.fv z1.bz z1.fl) ?_))))))))))
 rintro _ S2 ⟨rfl,hx2⟩
 rw [aw_check1]
 refine qp rfl (qb ?_)
 rintro (_ | _) h1
 ·refine qp rfl (qs rfl rfl (by decide) (qs rfl rfl (by decide) (qs rfl rfl (by decide) (qs rfl rfl (by decide) (qs rfl rfl (by decide) (qp rfl (qp rfl (qs rfl rfl (by decide) (qs rfl rfl (by decide) (qp rfl (qp rfl (qs rfl rfl (by decide) (qs rfl rfl (by decide) (qp rfl (qp rfl (qk (kc rfl kn) kn (sqn (eret (fqr rfl ?_)))))))))))))))))))
  first
  | exact ⟨rfl,x0.trans (hx1.trans (hx2.trans hx3))⟩
  | (exfalso;simp at h1;done)
  | (exfalso;simp at h2;done)
  | (exfalso;simp at h3;done)
 ·refine qp rfl (qg rfl (qp rfl (qg rfl (hbuild rfl rfl (lc rfl (lc rfl (lc rfl (lc rfl (lc rfl (ln rfl)))))) (qg rfl (hcall rfl rfl rfl (awc1_c _ .full s.nx (s.nx + 1) (.mk 2 0 1 [] []) ((hx2.ob _ (by have:=hx1.nx;omega)).trans ((hx1.ob _ (by omega)).trans o1)) ((hx2.ob _ (by have:=hx1.nx;omega)).trans ((hx1.ob _ (by omega)).trans o2))) ?_))))))
  rintro _ _ ⟨rfl,hq⟩
  obtain rfl:=hq.symm
  refine qg rfl (hcall rfl rfl rfl (Check_c _ ((hQ1.ext hx1).ext hx2) (cutP (.mk 2 0 1 [] [])) z2.hc z2.fv z2.bz z2.fl) ?_)
  rintro _ S3 ⟨rfl,hx3⟩
  rw [aw_check2]
  refine qg rfl (qp rfl (qb ?_))
  rintro (_ | _) h2
  ·refine qp rfl (qp rfl (qs rfl rfl (by decide) (qs rfl rfl (by decide) (qp rfl (qp rfl (qs rfl rfl (by decide) (qs rfl rfl (by decide) (qp rfl (qp rfl (qk (kc rfl kn) kn (sqn (eret (fqr rfl ?_)))))))))))))
   first
   | exact ⟨rfl,x0.trans (hx1.trans (hx2.trans hx3))⟩
   | (exfalso;simp at h1;done)
   | (exfalso;simp at h2;done)
   | (exfalso;simp at h3;done)
  ·refine qp rfl (qp rfl (qg rfl (qp rfl (qg rfl (qp rfl (qb ?_))))))
   rintro (_ | _) h3
   ·refine qp rfl (qp rfl (qs rfl rfl (by decide) (qs rfl rfl (by decide) (qp rfl (qp rfl (qk (kc rfl kn) kn (sqn (eret (fqr rfl ?_)))))))))
    first
    | exact ⟨rfl,x0.trans (hx1.trans (hx2.trans hx3))⟩
    | (exfalso;simp at h1;done)
    | (exfalso;simp at h2;done)
    | (exfalso;simp at h3;done)
   ·refine qp rfl (qp rfl (qg rfl (qp rfl (qg rfl (qp rfl (qp rfl (qp rfl (qk (kc rfl kn) kn (sqn (eret (fqr rfl ?_)))))))))))
    first
    | exact ⟨rfl,x0.trans (hx1.trans (hx2.trans hx3))⟩
    | (exfalso;simp at h1;done)
    | (exfalso;simp at h2;done)
    | (exfalso;simp at h3;done)
theorem typeR_two (c:Core) (xs as g0 g1:List Int) (a:Node):∃ t e,typeR c xs as g0 g1 a=[I t,I e] ∧ (coreOk c=false → t=0 ∧ e=60) ∧ (coreOk c=true → askB c xs as g0 g1 a=false → t=0 ∧ e=1) ∧
 (coreOk c=true → askB c xs as g0 g1 a=true → (match tN c.decls c.funs a (bindL (fun _=>none) xs g0) (bindL (fun _=>none) as g1) with
   | some u=>t=u ∧ e=0
   | none=>t=0 ∧ e=70)):=by
 cases h:coreOk c with
 | false=>exact ⟨0,60,typeR_core h,fun _=>⟨rfl,rfl⟩,fun h=>(by cases h),fun h=>(by cases h)⟩
 | true =>
   cases h2:askB c xs as g0 g1 a with
   | false=>exact ⟨0,1,typeR_ask h (by simp [h2]),fun h=>(by cases h),fun _ _=>⟨rfl,rfl⟩,fun _ h=>(by cases h)⟩
   | true =>
     rw [typeR_ok h h2]
     cases tN c.decls c.funs a (bindL (fun _=>none) xs g0) (bindL (fun _=>none) as g1) with
     | none=>exact ⟨0,70,rfl,fun h=>(by cases h),fun _ h=>(by cases h),fun _ _=>⟨rfl,rfl⟩⟩
     | some u=>exact ⟨u,0,rfl,fun h=>(by cases h),fun _ h=>(by cases h),fun _ _=>⟨rfl,rfl⟩⟩
end Go.Sim.Kd
namespace Go.Sim.Kd
open Go Go.Sim
theorem SArgs_l (l:List Arg) (i:Nat) (hi:i ≤ l.length) (hs:l.length ≤ 2 ^ 40) {n:Nat} {v:Nat → Bool} {D:List (Nat × List AV)} {S:Sg} {Q:Ex → Fr → Prop}
 (hX:∀ j,Q (.exit 0) ⟨upd (upd (upd (upd (upd ((fun _=>none)) 14 (some (.val (B false)))) 13 (some (.val (I j)))) 12 (some (.val (I (l.map Arg.enc).length)))) 1 (some (.val (encArgs l)))) 0 (some (.val (.slice .none 2 (l.map Arg.enc)))),(fun _=>none),n,v,D,S⟩):EX (callL p) (.loop F66_l1) ⟨upd (upd (upd (upd ((fun _=>none)) 13 (some (.val (I i)))) 12 (some (.val (I (l.map Arg.enc).length)))) 1 (some (.val (encArgs l)))) 0 (some (.val (.slice .none 2 (l.map Arg.enc)))),(fun _=>none),n,v,D,S⟩ Q:=by
 refine eloop (eseq (ereg (qp rfl (qb ?_))))
 rintro (_ | _) h1
 ·refine qk (kc rfl (kc rfl (kc rfl (kc rfl (kc rfl kn))))) kn (sqn (eseq (ecF rfl (eexit (sqx ?_)))))
  exact hX _
 ·refine qk (kc rfl (kc rfl (kc rfl (kc rfl (kc rfl kn))))) kn (sqn (eseq (ecT rfl (eskip (sqn (eseq (eblock (eseq (ereg (qp rfl (qp rfl (qk (kc rfl (kc rfl (kc rfl (kc rfl (kc rfl kn))))) kn (sqn (eseq (ereg (qp rfl (qp rfl ?_)))))))))))))))))
  have hlt:i < l.length:=by simpa using h1
  obtain ⟨a,ha⟩:=get_of_lt hlt
  have hd:=drop_cons ha
  refine hia (y:=Arg.enc a) rfl rfl (by omega) (by simp [ha]) rfl (hlda rfl rfl (lc rfl (lc rfl (ln rfl))) (qp rfl (qp rfl (hia (y:=Arg.enc a) rfl rfl (by omega) (by simp [ha]) rfl (hlda rfl rfl (lc rfl (lc rfl (ln rfl))) (qp rfl (qb ?_)))))))
  rintro (_ | _) h2
  ·refine qk (kc rfl (kc rfl (kc rfl (kc rfl (kc rfl kn))))) kn (sqn (ecF rfl (eskip (bqn (sqn (ereg (hadd rfl rfl (i64w (by omega)) (qp rfl (qk (kc rfl (kc rfl (kc rfl (kc rfl kn)))) kn ?_)))))))))
   exact SArgs_l l (i + 1) (by omega) hs  hX
  ·refine qk (kc rfl (kc rfl (kc rfl (kc rfl (kc rfl kn))))) kn (sqn (ecT rfl (eseq (ereg (qp rfl (qk (kc rfl kn) kn (sqn (eret (bqr (sqr ?_))))))))))
   exfalso
   simp_all
termination_by l.length - i
decreasing_by all_goals omega
theorem SArgs_c (s:Sg) (l:List Arg) (hz:l.length ≤ 2 ^ 40):HC p N66_ [encArgs l,encArgs l] s (fun r s'=>r=[B true] ∧ s'=s):=by
 refine hcf rfl f66_ rfl ?_
 simp only [chainOf]
 refine eseq (ereg (qp rfl (qk (kc rfl (kc rfl kn)) kn (sqn (eseq (eseq (ereg (qp rfl (qp rfl (qp rfl (qp rfl (qp rfl (qb ?_)))))))))))))
 rintro (_ | _) h1
 ·refine qk (kc rfl (kc rfl (kc rfl kn))) kn (sqn (ecF rfl (eskip (sqn (eseq (eseq (ereg (qp rfl (qp rfl (qp rfl (qk (kc rfl (kc rfl (kc rfl (kc rfl kn)))) kn (sqn (eblock (SArgs_l l 0 (by omega) hz ?_))))))))))))))
  ·intro j
   refine bqx (sqn (eseq (ereg (qp rfl (qk (kc rfl kn) kn (sqn (eret (fqr rfl ?_))))))))
   first
   | exact ⟨rfl,rfl⟩
   | (exfalso;simp at h1)
 ·refine qk (kc rfl (kc rfl (kc rfl kn))) kn (sqn (ecT rfl (eseq (ereg (qp rfl (qk (kc rfl kn) kn (sqn (eret (sqr (fqr rfl ?_))))))))))
  first
  | exact ⟨rfl,rfl⟩
  | (exfalso;simp at h1)
def ExactC (b:Node):Prop:=∀ s:Sg,HC p N24_ [.agg b.cs,.agg b.cs] s (fun r s'=>r=[B true] ∧ s'=s)
theorem exact_l1 (a:Node) (H:∀ b ∈ a.args,ExactC b) (hs:a.args.length ≤ 2 ^ 40) (i:Nat) (hi:i ≤ a.args.length) {n:Nat} {v:Nat → Bool} {D:List (Nat × List AV)} {S:Sg} {Q:Ex → Fr → Prop}
 (hX:∀ j,Q (.exit 0) ⟨upd (upd (upd (upd (upd ((fun _=>none)) 50 (some (.val (B false)))) 49 (some (.val (I j)))) 48 (some (.val (I (a.args.map Node.enc).length)))) 3 (some (.loc 3 0))) 2 (some (.loc 2 0)),upd (upd ((fun _=>none)) 3 (some (a.cs))) 2 (some (a.cs)),n,v,D,S⟩):EX (callL p) (.loop F24_l1) ⟨upd (upd (upd (upd ((fun _=>none)) 49 (some (.val (I i)))) 48 (some (.val (I (a.args.map Node.enc).length)))) 3 (some (.loc 3 0))) 2 (some (.loc 2 0)),upd (upd ((fun _=>none)) 3 (some (a.cs))) 2 (some (a.cs)),n,v,D,S⟩ Q:=by
 refine eloop (eseq (ereg (qp rfl (qb ?_))))
 rintro (_ | _) h1
 ·refine qk (kc rfl (kc rfl (kc rfl (kc rfl (kc rfl kn))))) (kc rfl (kc rfl kn)) (sqn (eseq (ecF rfl (eexit (sqx ?_)))))
  exact hX _
 ·refine qk (kc rfl (kc rfl (kc rfl (kc rfl (kc rfl kn))))) (kc rfl (kc rfl kn)) (sqn (eseq (ecT rfl (eskip (sqn (eseq (eblock (eseq (ereg (qp rfl (qp rfl (qk (kc rfl (kc rfl (kc rfl (kc rfl (kc rfl kn))))) (kc rfl (kc rfl kn)) (sqn (eseq (ereg (qp rfl (qp rfl (qp rfl ?_))))))))))))))))))
  have hlt:i < a.args.length:=by simpa using h1
  obtain ⟨b,hb⟩:=get_of_lt hlt
  refine hia (y:=.agg (b.cs)) rfl rfl (by omega) (by simp [hb,Node.enc_eq]) rfl (hlda rfl rfl (lc rfl (lc rfl (lc rfl (lc rfl (lc rfl (ln rfl)))))) (qp rfl (qp rfl (qp rfl (hia (y:=.agg (b.cs)) rfl rfl (by omega) (by simp [hb,Node.enc_eq]) rfl (hlda rfl rfl (lc rfl (lc rfl (lc rfl (lc rfl (lc rfl (ln rfl)))))) (hcall rfl rfl rfl (H b (List.mem_of_getElem? hb) _) ?_)))))))
  rintro _ _ ⟨rfl,rfl⟩
  refine qb ?_
  rintro (_ | _) h2
  ·refine qp rfl (qk (kc rfl (kc rfl (kc rfl (kc rfl (kc rfl kn))))) (kc rfl (kc rfl kn)) (sqn (ecT rfl (eseq (ereg (qp rfl (qk (kc rfl kn) kn (sqn (eret (bqr (sqr ?_)))))))))))
   exfalso
   simp_all
  ·refine qp rfl (qk (kc rfl (kc rfl (kc rfl (kc rfl (kc rfl kn))))) (kc rfl (kc rfl kn)) (sqn (ecF rfl (eskip (bqn (sqn (ereg (hadd rfl rfl (i64w (by omega)) (qp rfl (qk (kc rfl (kc rfl (kc rfl (kc rfl kn)))) (kc rfl (kc rfl kn)) ?_))))))))))
   exact exact_l1 a H hs (i + 1) (by omega) hX
termination_by a.args.length - i
decreasing_by all_goals omega
theorem exact_l2 (a:Node) (hz:a.sz ≤ 2 ^ 40) (H:∀ b ∈ a.brs,ExactC b.body) (i:Nat) (hi:i ≤ a.brs.length) {n:Nat} {v:Nat → Bool} {D:List (Nat × List AV)} {S:Sg} {Q:Ex → Fr → Prop}
 (hX:∀ j,Q (.exit 2) ⟨upd (upd (upd (upd (upd ((fun _=>none)) 69 (some (.val (B false)))) 68 (some (.val (I j)))) 67 (some (.val (I (a.brs.map Br.enc).length)))) 66 (some (.val (SL 7 (a.brs.map Br.enc))))) 3 (some (.loc 3 0)),upd ((fun _=>none)) 3 (some (a.cs)),n,v,D,S⟩):EX (callL p) (.loop F24_l2) ⟨upd (upd (upd (upd ((fun _=>none)) 68 (some (.val (I i)))) 67 (some (.val (I (a.brs.map Br.enc).length)))) 66 (some (.val (SL 7 (a.brs.map Br.enc))))) 3 (some (.loc 3 0)),upd ((fun _=>none)) 3 (some (a.cs)),n,v,D,S⟩ Q:=by
 refine eloop (eseq (ereg (qp rfl (qb ?_))))
 rintro (_ | _) h1
 ·refine qk (kc rfl (kc rfl (kc rfl (kc rfl (kc rfl kn))))) (kc rfl kn) (sqn (eseq (ecF rfl (eexit (sqx ?_)))))
  exact hX _
 ·refine qk (kc rfl (kc rfl (kc rfl (kc rfl (kc rfl kn))))) (kc rfl kn) (sqn (eseq (ecT rfl (eskip (sqn (eseq (eblock (eseq (ereg (qp rfl ?_))))))))))
  have hlt:i < a.brs.length:=by simpa using h1
  have hbs:=a.sz_brs
  obtain ⟨b,hb⟩:=get_of_lt hlt
  have hbz:=Node.sz_br (List.mem_of_getElem? hb)
  have hv:=b.sz_vars
  have hv2:=b.sz_co
  refine hia (y:=.agg (ints b.vars :: bools b.co :: b.body.cs)) rfl rfl (by omega) (by simp [hb,Br.enc_eq]) rfl (hlda rfl rfl (lc rfl (lc rfl (lc rfl (lc rfl (lc rfl (lc rfl (lc rfl (ln rfl)))))))) (hal (dc (dc (dc (dc (dc (dc (dc (dc dn rfl) rfl) rfl) rfl) rfl) rfl) rfl) rfl) (qp rfl (hstl rfl rfl rfl rfl (Nat.le_of_ble_eq_true rfl) (lc rfl (lc rfl (lc rfl (lc rfl (lc rfl (lc rfl (lc rfl (ln rfl)))))))) (qk (kc rfl (kc rfl (kc rfl (kc rfl (kc rfl (kc rfl kn)))))) (kc rfl (kc rfl kn)) (sqn (eseq (ereg (qp rfl (qp rfl (qp rfl (hia (y:=.agg (ints b.vars :: bools b.co :: b.body.cs)) rfl rfl (by omega) (by simp [hb,Br.enc_eq]) rfl (hlda rfl rfl (lc rfl (lc rfl (lc rfl (lc rfl (lc rfl (lc rfl (lc rfl (ln rfl)))))))) (hal (dc (dc (dc (dc (dc (dc (dc (dc (dc (dc (dc dn rfl) rfl) rfl) rfl) rfl) rfl) rfl) rfl) rfl) rfl) rfl) (hstl rfl rfl rfl rfl (Nat.le_of_ble_eq_true rfl) (lc rfl (lc rfl (lc rfl (lc rfl (lc rfl (lc rfl (lc rfl (ln rfl)))))))) (qk (kc rfl (kc rfl (kc rfl (kc rfl (kc rfl (kc rfl kn)))))) (kc rfl (kc rfl (kc rfl kn))) (sqn (eseq (ereg (qp rfl (qp rfl (qp rfl (qp rfl ?_)))))))))))))))))))))))
  refine hcall rfl rfl rfl (SameInts_c _ _ _ (by omega)) ?_
  rintro _ _ ⟨rfl,rfl⟩
  refine qb ?_
  rintro (_ | _) h2
  ·refine qp rfl (qp rfl (qs rfl rfl (by decide) (qs rfl rfl (by decide) (qs rfl rfl (by decide) (qs rfl rfl (by decide) (qs rfl rfl (by decide) (qs rfl rfl (by decide) (qp rfl (qp rfl (qs rfl rfl (by decide) (qs rfl rfl (by decide) (qs rfl rfl (by decide) (qs rfl rfl (by decide) (qs rfl rfl (by decide) (qs rfl rfl (by decide) (qp rfl (qk (kc rfl (kc rfl (kc rfl (kc rfl (kc rfl kn))))) (kc rfl kn) (sqn (ecT rfl (eseq (ereg (qp rfl (qk (kc rfl kn) kn ?_)))))))))))))))))))))))
   refine sqn (eret (bqr (sqr ?_)))
   exfalso
   simp_all
  ·refine qp rfl (qp rfl (qg rfl (qp rfl (qg rfl (qp rfl (qg rfl (qp rfl (qg rfl (qp rfl (qg rfl (hcall rfl rfl rfl (SameBools_c _ _ _ (by omega)) ?_)))))))))))
   rintro _ _ ⟨rfl,rfl⟩
   refine qb ?_
   rintro (_ | _) h3
   ·refine qg rfl (qp rfl (qp rfl (qp rfl (qs rfl rfl (by decide) (qs rfl rfl (by decide) (qs rfl rfl (by decide) (qs rfl rfl (by decide) (qs rfl rfl (by decide) (qs rfl rfl (by decide) (qp rfl (qk (kc rfl (kc rfl (kc rfl (kc rfl (kc rfl kn))))) (kc rfl kn) (sqn (ecT rfl (eseq (ereg (qp rfl (qk (kc rfl kn) kn (sqn (eret (bqr (sqr ?_)))))))))))))))))))))
    exfalso
    simp_all
   ·refine qg rfl (qp rfl (qp rfl (qp rfl (qg rfl (qp rfl (qg rfl (hlda rfl rfl (lc rfl (lc rfl (lc rfl (lc rfl (lc rfl (ln rfl)))))) (qg rfl (qp rfl (qg rfl (hlda rfl rfl (lc rfl (lc rfl (lc rfl (lc rfl (lc rfl (ln rfl)))))) (qg rfl (hcall rfl rfl rfl (H b (List.mem_of_getElem? hb) _) ?_)))))))))))))
    rintro _ _ ⟨rfl,rfl⟩
    refine qb ?_
    rintro (_ | _) h4
    ·refine qg rfl (qp rfl (qp rfl (qk (kc rfl (kc rfl (kc rfl (kc rfl (kc rfl kn))))) (kc rfl kn) (sqn (ecT rfl (eseq (ereg (qp rfl (qk (kc rfl kn) kn (sqn (eret (bqr (sqr ?_)))))))))))))
     exfalso
     simp_all
    ·refine qg rfl (qp rfl (qp rfl (qk (kc rfl (kc rfl (kc rfl (kc rfl (kc rfl kn))))) (kc rfl kn) (sqn (ecF rfl (eskip (bqn (sqn (ereg (hadd rfl rfl (i64w (by omega)) (qp rfl (qk (kc rfl (kc rfl (kc rfl (kc rfl kn)))) (kc rfl kn) ?_))))))))))))
     exact exact_l2 a hz H (i + 1) (by omega) hX
termination_by a.brs.length - i
decreasing_by all_goals omega
theorem exact_c0 (a:Node) (hz:a.sz ≤ 2 ^ 40) (H1:∀ b ∈ a.args,ExactC b) (H2:∀ b ∈ a.brs,ExactC b.body) (s:Sg):HC p N24_ [.agg a.cs,.agg a.cs] s (fun r s'=>r=[B true] ∧ s'=s):=by
 refine hcf rfl f24_ rfl ?_
 simp only [chainOf]
 refine eseq (ereg (hbox (dc (dc dn rfl) rfl) rfl (lc rfl (lc rfl (lc rfl (lc rfl (lc rfl (ln rfl)))))) (hbox (dc (dc (dc dn rfl) rfl) rfl) rfl (lc rfl (lc rfl (lc rfl (lc rfl (lc rfl (ln rfl)))))) (qp rfl (qk (kc rfl (kc rfl kn)) (kc rfl (kc rfl kn)) (sqn (eseq (eseq (ereg (qp rfl (qp rfl (qp rfl (qp rfl (qp rfl (qb ?_)))))))))))))))
 rintro (_ | _) h1
 ·refine qp rfl (qg rfl (qp rfl (qg rfl (qp rfl (qg rfl (qp rfl (qg rfl (qp rfl (qg rfl (qp rfl (qb ?_)))))))))))
  rintro (_ | _) h2
  ·refine qp rfl (qp rfl (qg rfl (qp rfl (qg rfl (qp rfl (qg rfl (qp rfl (qg rfl (qp rfl (qg rfl (qp rfl (qb ?_))))))))))))
   rintro (_ | _) h3
   ·refine qp rfl (qp rfl (qg rfl (qp rfl (qg rfl (qp rfl (qg rfl (qp rfl (qg rfl (qp rfl (qg rfl (qp rfl (qg rfl (qp rfl (qg rfl (qp rfl (qb ?_))))))))))))))))
    rintro (_ | _) h4
    ·refine qp rfl (qp rfl (qg rfl (qp rfl (qg rfl (qp rfl (qg rfl (qp rfl (qg rfl (qp rfl (qg rfl (qp rfl (qg rfl (qp rfl (qg rfl (qp rfl (qb ?_))))))))))))))))
     rintro (_ | _) h5
     ·refine qp rfl (qk (kc rfl (kc rfl (kc rfl kn))) (kc rfl (kc rfl kn)) (sqn (ecF rfl (eskip (sqn (eseq (eseq (ereg (qp rfl (qp rfl (qp rfl (qp rfl (qk (kc rfl (kc rfl (kc rfl (kc rfl kn)))) (kc rfl (kc rfl kn)) (sqn (eblock (exact_l1 a H1 (by have:=a.sz_args;omega) 0 (by omega) ?_))))))))))))))))
      ·intro j
       refine bqx (sqn (eseq (eseq (ereg (qp rfl (qp rfl (qp rfl (qp rfl (qk (kc rfl (kc rfl (kc rfl (kc rfl kn)))) (kc rfl kn) (sqn (eblock (exact_l2 a hz H2 0 (by omega) ?_))))))))))))
       ·intro j
        refine bqx (sqn (eseq (ereg (qp rfl (qk (kc rfl kn) kn (sqn (eret (fqr rfl ?_))))))))
        first
        | exact ⟨rfl,rfl⟩
        | (exfalso;simp_all)
     ·refine qp rfl (qk (kc rfl (kc rfl (kc rfl kn))) (kc rfl (kc rfl kn)) (sqn (ecT rfl (eseq (ereg (qp rfl (qk (kc rfl kn) kn (sqn (eret (sqr (fqr rfl ?_)))))))))))
      first
      | exact ⟨rfl,rfl⟩
      | (exfalso;simp_all)
    ·refine qp rfl (qp rfl (qs rfl rfl (by decide) (qs rfl rfl (by decide) (qs rfl rfl (by decide) (qs rfl rfl (by decide) (qs rfl rfl (by decide) (qs rfl rfl (by decide) (qs rfl rfl (by decide) (qp rfl (qk (kc rfl (kc rfl (kc rfl kn))) (kc rfl (kc rfl kn)) (sqn (ecT rfl (eseq (ereg (qp rfl (qk (kc rfl kn) kn (sqn (eret (sqr (fqr rfl ?_))))))))))))))))))))
     first
     | exact ⟨rfl,rfl⟩
     | (exfalso;simp_all)
   ·refine qp rfl (qp rfl (qs rfl rfl (by decide) (qs rfl rfl (by decide) (qs rfl rfl (by decide) (qs rfl rfl (by decide) (qs rfl rfl (by decide) (qs rfl rfl (by decide) (qs rfl rfl (by decide) (qp rfl (qp rfl (qs rfl rfl (by decide) (qs rfl rfl (by decide) (qs rfl rfl (by decide) (qs rfl rfl (by decide) (qs rfl rfl (by decide) (qs rfl rfl (by decide) (qs rfl rfl (by decide) (qp rfl (qk (kc rfl (kc rfl (kc rfl kn))) (kc rfl (kc rfl kn)) (sqn (ecT rfl (eseq (ereg ?_)))))))))))))))))))))))
    refine qp rfl (qk (kc rfl kn) kn (sqn (eret (sqr (fqr rfl ?_)))))
    first
    | exact ⟨rfl,rfl⟩
    | (exfalso;simp_all)
  ·refine qp rfl (qp rfl (qs rfl rfl (by decide) (qs rfl rfl (by decide) (qs rfl rfl (by decide) (qs rfl rfl (by decide) (qs rfl rfl (by decide) (qp rfl (qp rfl (qs rfl rfl (by decide) (qs rfl rfl (by decide) (qs rfl rfl (by decide) (qs rfl rfl (by decide) (qs rfl rfl (by decide) (qs rfl rfl (by decide) (qs rfl rfl (by decide) (qp rfl (qp rfl (qs rfl rfl (by decide) (qs rfl rfl (by decide) (qs rfl rfl (by decide) (qs rfl rfl (by decide) (qs rfl rfl (by decide) (qs rfl rfl (by decide) ?_)))))))))))))))))))))))
   refine qs rfl rfl (by decide) (qp rfl (qk (kc rfl (kc rfl (kc rfl kn))) (kc rfl (kc rfl kn)) (sqn (ecT rfl (eseq (ereg (qp rfl (qk (kc rfl kn) kn (sqn (eret (sqr (fqr rfl ?_))))))))))))
   first
   | exact ⟨rfl,rfl⟩
   | (exfalso;simp_all)
 ·refine qp rfl (qs rfl rfl (by decide) (qs rfl rfl (by decide) (qs rfl rfl (by decide) (qs rfl rfl (by decide) (qs rfl rfl (by decide) (qp rfl (qp rfl (qs rfl rfl (by decide) (qs rfl rfl (by decide) (qs rfl rfl (by decide) (qs rfl rfl (by decide) (qs rfl rfl (by decide) (qp rfl (qp rfl (qs rfl rfl (by decide) (qs rfl rfl (by decide) (qs rfl rfl (by decide) (qs rfl rfl (by decide) (qs rfl rfl (by decide) (qs rfl rfl (by decide) (qs rfl rfl (by decide) (qp rfl (qp rfl ?_)))))))))))))))))))))))
  refine qs rfl rfl (by decide) (qs rfl rfl (by decide) (qs rfl rfl (by decide) (qs rfl rfl (by decide) (qs rfl rfl (by decide) (qs rfl rfl (by decide) (qs rfl rfl (by decide) (qp rfl (qk (kc rfl (kc rfl (kc rfl kn))) (kc rfl (kc rfl kn)) (sqn (ecT rfl (eseq (ereg (qp rfl (qk (kc rfl kn) kn (sqn (eret (sqr (fqr rfl ?_))))))))))))))))))
  first
  | exact ⟨rfl,rfl⟩
  | (exfalso;simp_all)
theorem Exact_c (a:Node) (hz:a.sz ≤ 2 ^ 40):ExactC a:=by
 induction a using Node.ind with
 | h a ih1 ih2 =>
   exact exact_c0 a hz (fun b hb=>ih1 b hb (by have:=Node.sz_arg hb;omega)) (fun b hb=>ih2 b hb (by have:=Node.sz_br hb;have:=b.sz_body;omega))
theorem Xtor.sz_args (x:Xtor):x.args.length < x.sz:=by unfold Xtor.sz;omega
theorem Decl.sz_xtors (d:Decl):szL Xtor.sz d.xtors < d.sz:=by unfold Decl.sz;omega
theorem szL_len' {α:Type} {f:α → Nat} (l:List α) (h:∀ a,1 ≤ f a):l.length ≤ szL f l:=by induction l with
 | nil=>exact Nat.le_refl _
 | cons a l ih=>have:=h a;simp only [szL,List.length_cons];omega
theorem Xtor.one (x:Xtor):1 ≤ x.sz:=by unfold Xtor.sz;omega
theorem Decl.one (d:Decl):1 ≤ d.sz:=by unfold Decl.sz;omega
theorem CFun.one (d:CFun):1 ≤ d.sz:=by unfold CFun.sz;omega
theorem same_l2 (l:List Decl) (hz:szL Decl.sz l ≤ 2 ^ 40) (i:Nat) (hi:i < l.length) (d:Decl) (hd0:l[i]?=some d) (k:Nat) (hk:k ≤ d.xtors.length) {n:Nat} {v:Nat → Bool} {D:List (Nat × List AV)} {S:Sg} {Q:Ex → Fr → Prop}
 (hX:∀ j,Q (.exit 2) ⟨upd (upd (upd (upd (upd (upd (upd (upd (upd ((fun _=>none)) 64 (some (.val (B false)))) 63 (some (.val (I j)))) 62 (some (.val (I (d.xtors.map Xtor.enc).length)))) 61 (some (.val (SL 2 (d.xtors.map Xtor.enc))))) 15 (some (.val (I i)))) 14 (some (.val (I (l.map Decl.enc).length)))) 5 (some (.val (I i)))) 1 (some (.val (SL 3 (l.map Decl.enc))))) 0 (some (.val (SL 3 (l.map Decl.enc)))),(fun _=>none),n,v,D,S⟩):EX (callL p) (.loop F65_l2) ⟨upd (upd (upd (upd (upd (upd (upd (upd ((fun _=>none)) 63 (some (.val (I k)))) 62 (some (.val (I (d.xtors.map Xtor.enc).length)))) 61 (some (.val (SL 2 (d.xtors.map Xtor.enc))))) 15 (some (.val (I i)))) 14 (some (.val (I (l.map Decl.enc).length)))) 5 (some (.val (I i)))) 1 (some (.val (SL 3 (l.map Decl.enc))))) 0 (some (.val (SL 3 (l.map Decl.enc)))),(fun _=>none),n,v,D,S⟩ Q:=by
 refine eloop (eseq (ereg (qp rfl (qb ?_))))
 rintro (_ | _) h1
 ·refine qk (kc rfl (kc rfl (kc rfl (kc rfl (kc rfl (kc rfl (kc rfl (kc rfl (kc rfl kn))))))))) kn (sqn (eseq (ecF rfl (eexit (sqx ?_)))))
  exact hX _
 ·refine qk (kc rfl (kc rfl (kc rfl (kc rfl (kc rfl (kc rfl (kc rfl (kc rfl (kc rfl kn))))))))) kn (sqn (eseq (ecT rfl (eskip (sqn (eseq (eblock (eseq (ereg (qp rfl ?_))))))))))
  have hlt:k < d.xtors.length:=by simpa using h1
  have hdz:=szL_mem (f:=Decl.sz) (List.mem_of_getElem? hd0)
  have hdx:=Decl.sz_xtors d
  have hll:=szL_len' (f:=Decl.sz) l Decl.one
  have hlx:=szL_len' (f:=Xtor.sz) d.xtors Xtor.one
  obtain ⟨x,hx0⟩:=get_of_lt hlt
  have hxz:=szL_mem (f:=Xtor.sz) (List.mem_of_getElem? hx0)
  have hxa:=Xtor.sz_args x
  refine hia (y:=Xtor.enc x) rfl rfl (by omega) (by simp [hx0]) rfl (hlda rfl rfl (lc rfl (lc rfl (ln rfl))) (hal (dc (dc (dc (dc (dc (dc (dc (dc (dc (dc (dc (dc dn rfl) rfl) rfl) rfl) rfl) rfl) rfl) rfl) rfl) rfl) rfl) rfl) (qp rfl (hstl rfl rfl rfl rfl (Nat.le_of_ble_eq_true rfl) (lc rfl (lc rfl (ln rfl))) (qk (kc rfl (kc rfl (kc rfl (kc rfl (kc rfl (kc rfl (kc rfl (kc rfl (kc rfl (kc rfl kn)))))))))) (kc rfl kn) (sqn (eseq (ereg (qp rfl (qp rfl (qp rfl (qp rfl (hia (y:=Decl.enc d) rfl rfl (by omega) (by simp [hd0]) rfl (qp rfl (qp rfl (qp rfl (hia (y:=Xtor.enc x) rfl rfl (by omega) (by simp [hx0]) rfl (qp rfl (qp rfl (qp rfl (qb ?_)))))))))))))))))))))
  rintro (_ | _) h2
  ·refine qp rfl (qg rfl (qp rfl (qg rfl (qp rfl (qg rfl (qp rfl (qg rfl (qp rfl (qg rfl (hia (y:=Decl.enc d) rfl rfl (by omega) (by simp [hd0]) rfl (qg rfl (qp rfl (qg rfl (qp rfl (qg rfl (qp rfl (qg rfl (hia (y:=Xtor.enc x) rfl rfl (by omega) (by simp [hx0]) rfl (qg rfl (qp rfl (qg rfl (qp rfl (qg rfl ?_)))))))))))))))))))))))
   refine hcall rfl rfl rfl (SArgs_c _ _ (by omega)) ?_
   rintro _ _ ⟨rfl,rfl⟩
   refine qb ?_
   rintro (_ | _) h3
   ·refine qg rfl (qp rfl (qp rfl (qk (kc rfl (kc rfl (kc rfl (kc rfl (kc rfl (kc rfl (kc rfl (kc rfl (kc rfl kn))))))))) kn (sqn (ecT rfl (eseq (ereg (qp rfl (qk (kc rfl kn) kn (sqn (eret (bqr (sqr ?_)))))))))))))
    exfalso
    simp_all
   ·refine qg rfl (qp rfl (qp rfl (qk (kc rfl (kc rfl (kc rfl (kc rfl (kc rfl (kc rfl (kc rfl (kc rfl (kc rfl kn))))))))) kn (sqn (ecF rfl (eskip (bqn (sqn (ereg (hadd rfl rfl (i64w (by omega)) (qp rfl (qk (kc rfl (kc rfl (kc rfl (kc rfl (kc rfl (kc rfl (kc rfl (kc rfl kn)))))))) kn ?_))))))))))))
    exact same_l2 l hz i hi d hd0 (k + 1) (by omega) hX
  ·refine qp rfl (qs rfl rfl (by decide) (qs rfl rfl (by decide) (qs rfl rfl (by decide) (qs rfl rfl (by decide) (qs rfl rfl (by decide) (qs rfl rfl (by decide) (qs rfl rfl (by decide) (qs rfl rfl (by decide) (qs rfl rfl (by decide) (qs rfl rfl (by decide) (qs rfl rfl (by decide) (qs rfl rfl (by decide) (qs rfl rfl (by decide) (qp rfl (qk (kc rfl (kc rfl (kc rfl (kc rfl (kc rfl (kc rfl (kc rfl (kc rfl (kc rfl kn))))))))) kn (sqn (ecT rfl (eseq (ereg (qp rfl (qk (kc rfl kn) kn (sqn (eret ?_)))))))))))))))))))))))
   refine bqr (sqr ?_)
   exfalso
   simp_all
termination_by d.xtors.length - k
decreasing_by all_goals omega
theorem same_l1 (l:List Decl) (hz:szL Decl.sz l ≤ 2 ^ 40) (i:Nat) (hi:i ≤ l.length) {n:Nat} {v:Nat → Bool} {D:List (Nat × List AV)} {S:Sg} {Q:Ex → Fr → Prop}
 (hX:∀ j,Q (.exit 0) ⟨upd (upd (upd (upd (upd ((fun _=>none)) 16 (some (.val (B false)))) 15 (some (.val (I j)))) 14 (some (.val (I (l.map Decl.enc).length)))) 1 (some (.val (SL 3 (l.map Decl.enc))))) 0 (some (.val (SL 3 (l.map Decl.enc)))),(fun _=>none),n,v,D,S⟩):EX (callL p) (.loop F65_l1) ⟨upd (upd (upd (upd ((fun _=>none)) 15 (some (.val (I i)))) 14 (some (.val (I (l.map Decl.enc).length)))) 1 (some (.val (SL 3 (l.map Decl.enc))))) 0 (some (.val (SL 3 (l.map Decl.enc)))),(fun _=>none),n,v,D,S⟩ Q:=by
 refine eloop (eseq (ereg (qp rfl (qb ?_))))
 rintro (_ | _) h1
 ·refine qk (kc rfl (kc rfl (kc rfl (kc rfl (kc rfl kn))))) kn (sqn (eseq (ecF rfl (eexit (sqx ?_)))))
  exact hX _
 ·refine qk (kc rfl (kc rfl (kc rfl (kc rfl (kc rfl kn))))) kn (sqn (eseq (ecT rfl (eskip (sqn (eseq (eblock (eseq (ereg (qp rfl (qp rfl (qk (kc rfl (kc rfl (kc rfl (kc rfl (kc rfl kn))))) kn (sqn (eseq (eseq (ereg (qp rfl (qp rfl ?_))))))))))))))))))
  have hlt:i < l.length:=by simpa using h1
  have hll:=szL_len' (f:=Decl.sz) l Decl.one
  obtain ⟨d,hd0⟩:=get_of_lt hlt
  refine hia (y:=Decl.enc d) rfl rfl (by omega) (by simp [hd0]) rfl (qp rfl (qp rfl (qp rfl (qp rfl (hia (y:=Decl.enc d) rfl rfl (by omega) (by simp [hd0]) rfl (qp rfl (qp rfl (qp rfl (qb ?_)))))))))
  rintro (_ | _) h2
  ·refine qp rfl (qg rfl (qp rfl (qg rfl (qp rfl (qg rfl (hia (y:=Decl.enc d) rfl rfl (by omega) (by simp [hd0]) rfl (qg rfl (qp rfl (qg rfl (qp rfl (qg rfl (qp rfl (qg rfl (qp rfl (qg rfl (hia (y:=Decl.enc d) rfl rfl (by omega) (by simp [hd0]) rfl (qg rfl (qp rfl (qg rfl (qp rfl (qg rfl (qp rfl (qb ?_)))))))))))))))))))))))
   rintro (_ | _) h3
   ·refine qp rfl (qp rfl (qg rfl (qp rfl (qg rfl (qp rfl (qg rfl (hia (y:=Decl.enc d) rfl rfl (by omega) (by simp [hd0]) rfl (qg rfl (qp rfl (qg rfl (qp rfl (qg rfl (qp rfl (qg rfl (qp rfl (qg rfl (qp rfl (qg rfl (hia (y:=Decl.enc d) rfl rfl (by omega) (by simp [hd0]) rfl (qg rfl (qp rfl (qg rfl (qp rfl ?_)))))))))))))))))))))))
    refine qg rfl (qp rfl (qg rfl (qp rfl (qb ?_))))
    rintro (_ | _) h4
    ·refine qp rfl (qk (kc rfl (kc rfl (kc rfl (kc rfl (kc rfl (kc rfl kn)))))) kn (sqn (ecF rfl (eskip (sqn (eseq (ereg (qp rfl (qp rfl (hia (y:=Decl.enc d) rfl rfl (by omega) (by simp [hd0]) rfl (qp rfl (qp rfl (qp rfl (qp rfl (qk (kc rfl (kc rfl (kc rfl (kc rfl (kc rfl (kc rfl (kc rfl (kc rfl kn)))))))) kn (sqn (eblock (same_l2 l hz i hlt d hd0 0 (by omega) ?_))))))))))))))))))
     ·intro j
      refine bqx (bqn (sqn (ereg (hadd rfl rfl (i64w (by omega)) (qp rfl (qk (kc rfl (kc rfl (kc rfl (kc rfl kn)))) kn ?_))))))
      exact same_l1 l hz (i + 1) (by omega) hX
    ·refine qp rfl (qk (kc rfl (kc rfl (kc rfl (kc rfl (kc rfl (kc rfl kn)))))) kn (sqn (ecT rfl (eseq (ereg (qp rfl (qk (kc rfl kn) kn (sqn (eret (sqr (bqr (sqr ?_))))))))))))
     exfalso
     simp_all
   ·refine qp rfl (qp rfl (qs rfl rfl (by decide) (qs rfl rfl (by decide) (qs rfl rfl (by decide) (qs rfl rfl (by decide) (qs rfl rfl (by decide) (qs rfl rfl (by decide) (qs rfl rfl (by decide) (qs rfl rfl (by decide) (qs rfl rfl (by decide) (qs rfl rfl (by decide) (qs rfl rfl (by decide) (qs rfl rfl (by decide) (qs rfl rfl (by decide) (qp rfl (qk (kc rfl (kc rfl (kc rfl (kc rfl (kc rfl (kc rfl kn)))))) kn (sqn (ecT rfl (eseq (ereg (qp rfl (qk (kc rfl kn) kn (sqn ?_)))))))))))))))))))))))
    refine eret (sqr (bqr (sqr ?_)))
    exfalso
    simp_all
  ·refine qp rfl (qs rfl rfl (by decide) (qs rfl rfl (by decide) (qs rfl rfl (by decide) (qs rfl rfl (by decide) (qs rfl rfl (by decide) (qs rfl rfl (by decide) (qs rfl rfl (by decide) (qs rfl rfl (by decide) (qs rfl rfl (by decide) (qs rfl rfl (by decide) (qs rfl rfl (by decide) (qp rfl (qp rfl (qs rfl rfl (by decide) (qs rfl rfl (by decide) (qs rfl rfl (by decide) (qs rfl rfl (by decide) (qs rfl rfl (by decide) (qs rfl rfl (by decide) (qs rfl rfl (by decide) (qs rfl rfl (by decide) (qs rfl rfl (by decide) (qs rfl rfl (by decide) ?_)))))))))))))))))))))))
   refine qs rfl rfl (by decide) (qs rfl rfl (by decide) (qs rfl rfl (by decide) (qp rfl (qk (kc rfl (kc rfl (kc rfl (kc rfl (kc rfl (kc rfl kn)))))) kn (sqn (ecT rfl (eseq (ereg (qp rfl (qk (kc rfl kn) kn (sqn (eret (sqr (bqr (sqr ?_)))))))))))))))
   exfalso
   simp_all
termination_by l.length - i
decreasing_by all_goals omega
theorem Same_c (s:Sg) (l:List Decl) (hz:szL Decl.sz l ≤ 2 ^ 40):HC p N65_ [SL 3 (l.map Decl.enc),SL 3 (l.map Decl.enc)] s (fun r s'=>r=[B true] ∧ s'=s):=by
 refine hcf rfl f65_ rfl ?_
 simp only [chainOf]
 refine eseq (ereg (qp rfl (qk (kc rfl (kc rfl kn)) kn (sqn (eseq (eseq (ereg (qp rfl (qp rfl (qp rfl (qp rfl (qp rfl (qb ?_)))))))))))))
 rintro (_ | _) h1
 ·refine qk (kc rfl (kc rfl (kc rfl kn))) kn (sqn (ecF rfl (eskip (sqn (eseq (eseq (ereg (qp rfl (qp rfl (qp rfl (qk (kc rfl (kc rfl (kc rfl (kc rfl kn)))) kn (sqn (eblock (same_l1 l hz 0 (by omega) ?_))))))))))))))
  ·intro j
   refine bqx (sqn (eseq (ereg (qp rfl (qk (kc rfl kn) kn (sqn (eret (fqr rfl ?_))))))))
   first
   | exact ⟨rfl,rfl⟩
   | (exfalso;simp_all)
 ·refine qk (kc rfl (kc rfl (kc rfl kn))) kn (sqn (ecT rfl (eseq (ereg (qp rfl (qk (kc rfl kn) kn (sqn (eret (sqr (fqr rfl ?_))))))))))
  first
  | exact ⟨rfl,rfl⟩
  | (exfalso;simp_all)
theorem CFun.sz_bod (f:CFun):f.body.sz < f.sz:=by unfold CFun.sz;omega
theorem CFun.sz_par (f:CFun):f.params.length < f.sz:=by unfold CFun.sz;omega
theorem CFun.sz_var (f:CFun):f.vars.length < f.sz:=by unfold CFun.sz;omega
theorem xcore_l (c:Core) (hz:szL CFun.sz c.funs ≤ 2 ^ 40) (i:Nat) (hi:i ≤ c.funs.length) {n:Nat} {v:Nat → Bool} {D:List (Nat × List AV)} {S:Sg} {Q:Ex → Fr → Prop}
 (hX:∀ j,Q (.exit 0) ⟨upd (upd (upd (upd (upd ((fun _=>none)) 27 (some (.val (B false)))) 26 (some (.val (I j)))) 25 (some (.val (I (c.funs.map CFun.enc).length)))) 24 (some (.val (SL 8 (c.funs.map CFun.enc))))) 3 (some (.loc 3 0)),upd ((fun _=>none)) 3 (some (Core.cs c)),n,v,D,S⟩):EX (callL p) (.loop F23_l1) ⟨upd (upd (upd (upd ((fun _=>none)) 26 (some (.val (I i)))) 25 (some (.val (I (c.funs.map CFun.enc).length)))) 24 (some (.val (SL 8 (c.funs.map CFun.enc))))) 3 (some (.loc 3 0)),upd ((fun _=>none)) 3 (some (Core.cs c)),n,v,D,S⟩ Q:=by
 refine eloop (eseq (ereg (qp rfl (qb ?_))))
 rintro (_ | _) h1
 ·refine qk (kc rfl (kc rfl (kc rfl (kc rfl (kc rfl kn))))) (kc rfl kn) (sqn (eseq (ecF rfl (eexit (sqx ?_)))))
  exact hX _
 ·refine qk (kc rfl (kc rfl (kc rfl (kc rfl (kc rfl kn))))) (kc rfl kn) (sqn (eseq (ecT rfl (eskip (sqn (eseq (eblock (eseq (ereg (qp rfl ?_))))))))))
  have hlt:i < c.funs.length:=by simpa using h1
  have hll:=szL_len' (f:=CFun.sz) c.funs CFun.one
  obtain ⟨b,hb⟩:=get_of_lt hlt
  have hbz:=szL_mem (f:=CFun.sz) (List.mem_of_getElem? hb)
  have hp1:=CFun.sz_par b
  have hp2:=CFun.sz_var b
  have hp3:=CFun.sz_bod b
  refine hia (y:=.agg (Str b.name :: encArgs b.params :: ints b.vars :: b.body.cs)) rfl rfl (by omega) (by simp [hb,CFun.enc_eq]) rfl (hlda rfl rfl (lc rfl (lc rfl (lc rfl (lc rfl (lc rfl (lc rfl (lc rfl (lc rfl (ln rfl))))))))) (hal (dc (dc (dc (dc (dc (dc (dc (dc dn rfl) rfl) rfl) rfl) rfl) rfl) rfl) rfl) (qp rfl (hstl rfl rfl rfl rfl (Nat.le_of_ble_eq_true rfl) (lc rfl (lc rfl (lc rfl (lc rfl (lc rfl (lc rfl (lc rfl (lc rfl (ln rfl))))))))) (qk (kc rfl (kc rfl (kc rfl (kc rfl (kc rfl (kc rfl kn)))))) (kc rfl (kc rfl kn)) (sqn (eseq (ereg (qp rfl (qp rfl (qp rfl (hia (y:=.agg (Str b.name :: encArgs b.params :: ints b.vars :: b.body.cs)) rfl rfl (by omega) (by simp [hb,CFun.enc_eq]) rfl (hlda rfl rfl (lc rfl (lc rfl (lc rfl (lc rfl (lc rfl (lc rfl (lc rfl (lc rfl (ln rfl))))))))) (hal (dc (dc (dc (dc (dc (dc (dc (dc (dc (dc (dc dn rfl) rfl) rfl) rfl) rfl) rfl) rfl) rfl) rfl) rfl) rfl) (hstl rfl rfl rfl rfl (Nat.le_of_ble_eq_true rfl) (lc rfl (lc rfl (lc rfl (lc rfl (lc rfl (lc rfl (lc rfl (lc rfl (ln rfl))))))))) (qk (kc rfl (kc rfl (kc rfl (kc rfl (kc rfl (kc rfl kn)))))) (kc rfl (kc rfl (kc rfl kn))) (sqn (eseq (ereg (qp rfl (qp rfl (qp rfl (qp rfl ?_)))))))))))))))))))))))
  refine qp rfl (qb ?_)
  rintro (_ | _) h2
  ·refine qp rfl (qg rfl (qp rfl (qg rfl (qp rfl (qg rfl (qp rfl (qg rfl (qp rfl (qg rfl (hcall rfl rfl rfl (SArgs_c _ _ (by omega)) ?_))))))))))
   rintro _ _ ⟨rfl,rfl⟩
   refine qb ?_
   rintro (_ | _) h3
   ·refine qg rfl (qp rfl (qp rfl (qp rfl (qs rfl rfl (by decide) (qs rfl rfl (by decide) (qs rfl rfl (by decide) (qs rfl rfl (by decide) (qs rfl rfl (by decide) (qs rfl rfl (by decide) (qp rfl (qp rfl (qs rfl rfl (by decide) (qs rfl rfl (by decide) (qs rfl rfl (by decide) (qs rfl rfl (by decide) (qs rfl rfl (by decide) (qs rfl rfl (by decide) (qp rfl (qk (kc rfl (kc rfl (kc rfl (kc rfl (kc rfl kn))))) (kc rfl kn) (sqn (ecT rfl (eseq (ereg ?_)))))))))))))))))))))))
    refine qp rfl (qk (kc rfl kn) kn (sqn (eret (bqr (sqr ?_)))))
    exfalso
    simp_all
   ·refine qg rfl (qp rfl (qp rfl (qp rfl (qg rfl (qp rfl (qg rfl (qp rfl (qg rfl (qp rfl (qg rfl (qp rfl (qg rfl (hcall rfl rfl rfl (SameInts_c _ _ _ (by omega)) ?_)))))))))))))
    rintro _ _ ⟨rfl,rfl⟩
    refine qb ?_
    rintro (_ | _) h4
    ·refine qg rfl (qp rfl (qp rfl (qp rfl (qs rfl rfl (by decide) (qs rfl rfl (by decide) (qs rfl rfl (by decide) (qs rfl rfl (by decide) (qs rfl rfl (by decide) (qs rfl rfl (by decide) (qp rfl (qk (kc rfl (kc rfl (kc rfl (kc rfl (kc rfl kn))))) (kc rfl kn) (sqn (ecT rfl (eseq (ereg (qp rfl (qk (kc rfl kn) kn (sqn (eret (bqr (sqr ?_)))))))))))))))))))))
     exfalso
     simp_all
    ·refine qg rfl (qp rfl (qp rfl (qp rfl (qg rfl (qp rfl (qg rfl (hlda rfl rfl (lc rfl (lc rfl (lc rfl (lc rfl (lc rfl (ln rfl)))))) (qg rfl (qp rfl (qg rfl (hlda rfl rfl (lc rfl (lc rfl (lc rfl (lc rfl (lc rfl (ln rfl)))))) (qg rfl (hcall rfl rfl rfl (Exact_c b.body (by have:=CFun.sz_bod b;omega) _) ?_)))))))))))))
     rintro _ _ ⟨rfl,rfl⟩
     refine qb ?_
     rintro (_ | _) h5
     ·refine qg rfl (qp rfl (qp rfl (qk (kc rfl (kc rfl (kc rfl (kc rfl (kc rfl kn))))) (kc rfl kn) (sqn (ecT rfl (eseq (ereg (qp rfl (qk (kc rfl kn) kn (sqn (eret (bqr (sqr ?_)))))))))))))
      exfalso
      simp_all
     ·refine qg rfl (qp rfl (qp rfl (qk (kc rfl (kc rfl (kc rfl (kc rfl (kc rfl kn))))) (kc rfl kn) (sqn (ecF rfl (eskip (bqn (sqn (ereg (hadd rfl rfl (i64w (by omega)) (qp rfl (qk (kc rfl (kc rfl (kc rfl (kc rfl kn)))) (kc rfl kn) ?_))))))))))))
      exact xcore_l c hz (i + 1) (by omega) hX
  ·refine qp rfl (qs rfl rfl (by decide) (qs rfl rfl (by decide) (qs rfl rfl (by decide) (qs rfl rfl (by decide) (qs rfl rfl (by decide) (qs rfl rfl (by decide) (qp rfl (qp rfl (qs rfl rfl (by decide) (qs rfl rfl (by decide) (qs rfl rfl (by decide) (qs rfl rfl (by decide) (qs rfl rfl (by decide) (qs rfl rfl (by decide) (qp rfl (qp rfl (qs rfl rfl (by decide) (qs rfl rfl (by decide) (qs rfl rfl (by decide) (qs rfl rfl (by decide) (qs rfl rfl (by decide) (qs rfl rfl (by decide) (qp rfl ?_)))))))))))))))))))))))
   refine qk (kc rfl (kc rfl (kc rfl (kc rfl (kc rfl kn))))) (kc rfl kn) (sqn (ecT rfl (eseq (ereg (qp rfl (qk (kc rfl kn) kn (sqn (eret (bqr (sqr ?_))))))))))
   exfalso
   simp_all
termination_by c.funs.length - i
decreasing_by all_goals omega
theorem ExactCore_c (s:Sg) (c:Core) (hz:c.sz ≤ 2 ^ 40):HC p N23_ [.agg (Core.cs c),.agg (Core.cs c)] s (fun r s'=>r=[B true] ∧ s'=s):=by
 have hz1:szL Decl.sz c.decls ≤ 2 ^ 40:=by unfold Core.sz at hz;omega
 have hz2:szL CFun.sz c.funs ≤ 2 ^ 40:=by unfold Core.sz at hz;omega
 refine hcf rfl f23_ rfl ?_
 simp only [chainOf]
 refine eseq (ereg (hbox (dc (dc dn rfl) rfl) rfl (lc rfl (lc rfl (ln rfl))) (hbox (dc (dc (dc dn rfl) rfl) rfl) rfl (lc rfl (lc rfl (ln rfl))) (qp rfl (qk (kc rfl (kc rfl kn)) (kc rfl (kc rfl kn)) (sqn (eseq (eseq (ereg (qp rfl (qp rfl (qp rfl (qp rfl (hcall rfl rfl rfl (Same_c _ _ hz1) ?_))))))))))))))
 rintro _ _ ⟨rfl,rfl⟩
 refine qb ?_
 rintro (_ | _) h1
 ·refine qp rfl (qp rfl (qs rfl rfl (by decide) (qs rfl rfl (by decide) (qs rfl rfl (by decide) (qs rfl rfl (by decide) (qs rfl rfl (by decide) (qs rfl rfl (by decide) (qs rfl rfl (by decide) (qp rfl (qk (kc rfl (kc rfl (kc rfl kn))) (kc rfl (kc rfl kn)) (sqn (ecT rfl (eseq (ereg (qp rfl (qk (kc rfl kn) kn (sqn (eret (sqr (fqr rfl ?_))))))))))))))))))))
  first
  | exact ⟨rfl,rfl⟩
  | (exfalso;simp_all)
 ·refine qp rfl (qp rfl (qg rfl (qp rfl (qg rfl (qp rfl (qg rfl (qp rfl (qg rfl (qp rfl (qg rfl (qp rfl (qg rfl (qp rfl (qg rfl (qp rfl (qb ?_))))))))))))))))
  rintro (_ | _) h2
  ·refine qp rfl (qk (kc rfl (kc rfl (kc rfl kn))) (kc rfl (kc rfl kn)) (sqn (ecF rfl (eskip (sqn (eseq (eseq (ereg (qp rfl (qp rfl (qp rfl (qp rfl (qk (kc rfl (kc rfl (kc rfl (kc rfl kn)))) (kc rfl kn) (sqn (eblock (xcore_l c hz2 0 (by omega) ?_))))))))))))))))
   ·intro j
    refine bqx (sqn (eseq (ereg (qp rfl (qk (kc rfl kn) kn (sqn (eret (fqr rfl ?_))))))))
    first
    | exact ⟨rfl,rfl⟩
    | (exfalso;simp_all)
  ·refine qp rfl (qk (kc rfl (kc rfl (kc rfl kn))) (kc rfl (kc rfl kn)) (sqn (ecT rfl (eseq (ereg (qp rfl (qk (kc rfl kn) kn (sqn (eret (sqr (fqr rfl ?_)))))))))))
   first
   | exact ⟨rfl,rfl⟩
   | (exfalso;simp_all)
end Go.Sim.Kd
namespace Go.Sim.Kd
open Go Go.Sim
def CanM (n0:Nat) (o:Own) (v:Nat → Bool) (n:Nat):Prop:=o=.full ∨ ∃ t,o=.tip t ∧ n0 ≤ t ∧ t < n ∧ v t=true
theorem CanM.can {n0 n:Nat} {o:Own} {v:Nat → Bool} (h:CanM n0 o v n):Can o v:=by
 rcases h with rfl | ⟨t,rfl,_,_,h⟩
 ·trivial
 ·exact h
theorem CanM.up {n0 n n1:Nat} {o:Own} {v v1:Nat → Bool} (h:CanM n0 o v n) (hn:n ≤ n1) (hv:∀ t,t < n → v1 t=v t):CanM n0 o v1 n1:=by
 rcases h with rfl | ⟨t,rfl,h1,h2,h3⟩
 ·exact .inl rfl
 ·exact .inr ⟨t,rfl,h1,by omega,by rw [hv t h2];exact h3⟩
theorem CanM.new {n0 n:Nat} {v:Nat → Bool} (h:Can (.tip n) v) (hn:n0 ≤ n):CanM n0 (.tip n) v (n + 1):=.inr ⟨n,rfl,hn,by omega,h⟩
theorem CanM.old {n0 n:Nat} {o:Own} {v v':Nat → Bool} (h:CanM n0 o v n) (hn:n0 ≤ n) (hv:∀ t,t ≠ n → o ≠ .tip t → v' t=v t):∀ t,t < n0 → v' t=v t:=fun t ht=>by
 refine hv t (by omega) fun e=>?_
 rcases h with rfl | ⟨t',rfl,h1,_,_⟩
 ·cases e
 ·cases e;omega
theorem hapK {c:Caller} {l:List AIns} {E:Nat → Option TV} {L:Nat → Option (List AV)} {n:Nat} {v:Nat → Bool} {D:List (Nat × List AV)} {S:Sg} {Q:Fr → Prop} {d sz by_:Nat} {s x:AO} {o':Own} {ys:List AV}
 (h1:evV E s=some (.slice .full sz [])) (h2:evV E x=some (.slice o' sz ys)) (hlen:ys.length * by_ ≤ 2 ^ 47)
 (k:∀ o1 n1 v1,n ≤ n1 → (∀ t,t < n → v1 t=v t) → HL c l ⟨upd E d (some (.val (.slice o1 sz ys))),L,n1,v1,D,S⟩ Q):HL c (⟨some d,none,.app sz by_ s x⟩ :: l) ⟨E,L,n,v,D,S⟩ Q:=by
 cases ys with
 | nil=>exact hap0 h1 h2 rfl (k .full n v (Nat.le_refl _) fun _ _=>rfl)
 | cons y ys=>exact hapF h1 h2 (by simp) (by simpa using hlen) fun v' a b=>k (.tip n) (n + 1) v' (by omega) fun t ht=>b t (by omega)
def CopyC (b:Node):Prop:=∀ s:Sg,HC p N21_ [.agg b.cs] s (fun r s'=>r=[.agg b.cs] ∧ s'=s)
theorem copy_l1 (a:Node) (hz:a.sz ≤ 2 ^ 30) (H:∀ b ∈ a.args,CopyC b) (i:Nat) (hi:i ≤ a.args.length) (o:Own) {n:Nat} {v:Nat → Bool} {D:List (Nat × List AV)} {S:Sg} {Q:Ex → Fr → Prop} (hc:CanM 0 o v n)
 (hX:∀ j n' v' o',Q (.exit 0) ⟨upd (upd (upd (upd (upd (upd (upd ((fun _=>none)) 15 (some (.val (B false)))) 14 (some (.val (I j)))) 13 (some (.val (I (a.args.map Node.enc).length)))) 12 (some (.val (SL 5 (a.args.map Node.enc))))) 3 (some (.loc 3 0))) 2 (some (.loc 2 0))) 1 (some (.loc 1 0)),upd (upd (upd ((fun _=>none)) 3 (some ([I a.op,I a.n,I a.ty,.slice o' 5 (a.args.map Node.enc),.slice .full 7 ([])]))) 2 (some ([I 0,I 0,I 0,.slice .full 5 [],.slice .full 7 []]))) 1 (some (a.cs)),n',v',D,S⟩):EX (callL p) (.loop F21_l1) ⟨upd (upd (upd (upd (upd (upd ((fun _=>none)) 14 (some (.val (I i)))) 13 (some (.val (I (a.args.map Node.enc).length)))) 12 (some (.val (SL 5 (a.args.map Node.enc))))) 3 (some (.loc 3 0))) 2 (some (.loc 2 0))) 1 (some (.loc 1 0)),upd (upd (upd ((fun _=>none)) 3 (some ([I a.op,I a.n,I a.ty,.slice o 5 ((a.args.take i).map Node.enc),.slice .full 7 ([])]))) 2 (some ([I 0,I 0,I 0,.slice .full 5 [],.slice .full 7 []]))) 1 (some (a.cs)),n,v,D,S⟩ Q:=by
 refine eloop (eseq (ereg (qp rfl (qb ?_))))
 rintro (_ | _) h1
 ·refine qk (kc rfl (kc rfl (kc rfl (kc rfl (kc rfl (kc rfl (kc rfl kn))))))) (kc rfl (kc rfl (kc rfl kn))) (sqn (eseq (ecF rfl (eexit (sqx ?_)))))
  have e:a.args.take i=a.args:=List.take_of_length_le (by simp at h1;omega)
  rw [e]
  exact hX _ _ _ _
 ·refine qk (kc rfl (kc rfl (kc rfl (kc rfl (kc rfl (kc rfl (kc rfl kn))))))) (kc rfl (kc rfl (kc rfl kn))) (sqn (eseq (ecT rfl (eskip (sqn (eseq (eblock (eseq (ereg ?_)))))))))
  have hlt:i < a.args.length:=by simpa using h1
  have hzz:=a.sz_args
  obtain ⟨b,hb⟩:=get_of_lt hlt
  refine hia (y:=.agg b.cs) rfl rfl (by omega) (by simp [hb,Node.enc_eq]) rfl (hlda rfl rfl (lc rfl (lc rfl (lc rfl (lc rfl (lc rfl (ln rfl)))))) (hal (dc (dc (dc (dc (dc (dc (dc (dc (dc dn rfl) rfl) rfl) rfl) rfl) rfl) rfl) rfl) rfl) (hstl rfl rfl rfl rfl (Nat.le_of_ble_eq_true rfl) (lc rfl (lc rfl (lc rfl (lc rfl (lc rfl (ln rfl)))))) (qk (kc rfl (kc rfl (kc rfl (kc rfl (kc rfl (kc rfl (kc rfl kn))))))) (kc rfl (kc rfl (kc rfl (kc rfl kn)))) (sqn (ereg (qp rfl (qp rfl (hlda rfl rfl (lc rfl (lc rfl (lc rfl (lc rfl (lc rfl (ln rfl)))))) (hcall rfl rfl rfl (H b (List.mem_of_getElem? hb) _) ?_))))))))))
  rintro _ _ ⟨rfl,rfl⟩
  refine hbsl (q':=[Node.enc b]) rfl rfl (by rw [Node.enc_eq];rfl) (hapC (r:=(a.args.take (i + 1)).map Node.enc) rfl rfl hc.can (by simp) (by simp;omega) (by simp [List.take_add_one,hb]) ?_)
  intro v1 hc1 hv1
  refine qp rfl (hstl rfl rfl rfl rfl (Nat.le_of_ble_eq_true rfl) (lc rfl (lc rfl (lc rfl (lc rfl (lc rfl (ln rfl)))))) (qk (kc rfl (kc rfl (kc rfl (kc rfl (kc rfl (kc rfl kn)))))) (kc rfl (kc rfl (kc rfl kn))) (bqn (sqn (ereg (hadd rfl rfl (i64w (by omega)) (qp rfl (qk (kc rfl (kc rfl (kc rfl (kc rfl (kc rfl (kc rfl kn)))))) (kc rfl (kc rfl (kc rfl kn))) ?_))))))))
  exact copy_l1 a hz H (i + 1) (by omega) _ (CanM.new hc1 (Nat.zero_le _)) hX
termination_by a.args.length - i
decreasing_by all_goals omega
theorem copy_l2 (a:Node) (hz:a.sz ≤ 2 ^ 30) (H:∀ b ∈ a.brs,CopyC b.body) (o5:Own) (i:Nat) (hi:i ≤ a.brs.length) (o:Own) {n:Nat} {v:Nat → Bool} {D:List (Nat × List AV)} {S:Sg} {Q:Ex → Fr → Prop} (hc:CanM 0 o v n)
 (hX:∀ j n' v' o',Q (.exit 2) ⟨upd (upd (upd (upd (upd (upd ((fun _=>none)) 30 (some (.val (B false)))) 29 (some (.val (I j)))) 28 (some (.val (I (a.brs.map Br.enc).length)))) 27 (some (.val (SL 7 (a.brs.map Br.enc))))) 3 (some (.loc 3 0))) 2 (some (.loc 2 0)),upd (upd ((fun _=>none)) 3 (some ([I a.op,I a.n,I a.ty,.slice o5 5 (a.args.map Node.enc),.slice o' 7 (a.brs.map Br.enc)]))) 2 (some ([I 0,I 0,I 0,.slice .full 5 [],.slice .full 7 []])),n',v',D,S⟩):EX (callL p) (.loop F21_l2) ⟨upd (upd (upd (upd (upd ((fun _=>none)) 29 (some (.val (I i)))) 28 (some (.val (I (a.brs.map Br.enc).length)))) 27 (some (.val (SL 7 (a.brs.map Br.enc))))) 3 (some (.loc 3 0))) 2 (some (.loc 2 0)),upd (upd ((fun _=>none)) 3 (some ([I a.op,I a.n,I a.ty,.slice o5 5 (a.args.map Node.enc),.slice o 7 ((a.brs.take i).map Br.enc)]))) 2 (some ([I 0,I 0,I 0,.slice .full 5 [],.slice .full 7 []])),n,v,D,S⟩ Q:=by
 refine eloop (eseq (ereg (qp rfl (qb ?_))))
 rintro (_ | _) h1
 ·refine qk (kc rfl (kc rfl (kc rfl (kc rfl (kc rfl (kc rfl kn)))))) (kc rfl (kc rfl kn)) (sqn (eseq (ecF rfl (eexit (sqx ?_)))))
  have e:a.brs.take i=a.brs:=List.take_of_length_le (by simp at h1;omega)
  rw [e]
  exact hX _ _ _ _
 ·refine qk (kc rfl (kc rfl (kc rfl (kc rfl (kc rfl (kc rfl kn)))))) (kc rfl (kc rfl kn)) (sqn (eseq (ecT rfl (eskip (sqn (eseq (eblock (eseq (ereg ?_)))))))))
  have hlt:i < a.brs.length:=by simpa using h1
  have hbs:=a.sz_brs
  obtain ⟨b,hb⟩:=get_of_lt hlt
  have hbz:=Node.sz_br (List.mem_of_getElem? hb)
  have hv1:=b.sz_vars
  have hv2:=b.sz_co
  refine hia (y:=.agg (ints b.vars :: bools b.co :: b.body.cs)) rfl rfl (by omega) (by simp [hb,Br.enc_eq]) rfl (hlda rfl rfl (lc rfl (lc rfl (lc rfl (lc rfl (lc rfl (lc rfl (lc rfl (ln rfl)))))))) (hal (dc (dc (dc (dc (dc (dc (dc (dc dn rfl) rfl) rfl) rfl) rfl) rfl) rfl) rfl) (hstl rfl rfl rfl rfl (Nat.le_of_ble_eq_true rfl) (lc rfl (lc rfl (lc rfl (lc rfl (lc rfl (lc rfl (lc rfl (ln rfl)))))))) (qk (kc rfl (kc rfl (kc rfl (kc rfl (kc rfl (kc rfl kn)))))) (kc rfl (kc rfl (kc rfl kn))) (sqn (ereg (qp rfl (qp rfl (qp rfl (qp rfl (hapK rfl rfl (by simp;omega) ?_)))))))))))
  intro o1 n1 v1 hn1 hk1
  refine qp rfl (qp rfl (hapK rfl rfl (by simp;omega) ?_))
  intro o2 n2 v2 hn2 hk2
  refine qp rfl (hlda rfl rfl (lc rfl (lc rfl (lc rfl (lc rfl (lc rfl (ln rfl)))))) (hcall rfl rfl rfl (H b (List.mem_of_getElem? hb) _) ?_))
  rintro _ _ ⟨rfl,rfl⟩
  refine hbuild rfl rfl (lc rfl (lc rfl (lc rfl (lc rfl (lc rfl (lc rfl (lc rfl (ln rfl)))))))) (hbsl (q':=[Br.enc b]) rfl rfl (by rw [Br.enc_eq];rfl) (hapC (r:=(a.brs.take (i + 1)).map Br.enc) rfl rfl ((hc.up hn1 hk1).up hn2 hk2).can (by simp) (by simp;omega) (by simp [List.take_add_one,hb]) ?_))
  intro v3 hc1 hv3
  refine qp rfl (hstl rfl rfl rfl rfl (Nat.le_of_ble_eq_true rfl) (lc rfl (lc rfl (lc rfl (lc rfl (lc rfl (ln rfl)))))) (qk (kc rfl (kc rfl (kc rfl (kc rfl (kc rfl kn))))) (kc rfl (kc rfl kn)) (bqn (sqn (ereg (hadd rfl rfl (i64w (by omega)) (qp rfl (qk (kc rfl (kc rfl (kc rfl (kc rfl (kc rfl kn))))) (kc rfl (kc rfl kn)) ?_))))))))
  exact copy_l2 a hz H o5 (i + 1) (by omega) _ (CanM.new hc1 (Nat.zero_le _)) hX
termination_by a.brs.length - i
decreasing_by all_goals omega
theorem copy_c0 (a:Node) (hz:a.sz ≤ 2 ^ 30) (H1:∀ b ∈ a.args,CopyC b) (H2:∀ b ∈ a.brs,CopyC b.body) (s:Sg):HC p N21_ [.agg a.cs] s (fun r s'=>r=[.agg a.cs] ∧ s'=s):=by
 refine hcf rfl f21_ rfl ?_
 simp only [chainOf]
 refine eseq (ereg (hbox (dc dn rfl) rfl (lc rfl (lc rfl (lc rfl (lc rfl (lc rfl (ln rfl)))))) (hal (dc (dc dn rfl) rfl) (qk (kc rfl (kc rfl kn)) (kc rfl (kc rfl kn)) (sqn (eseq (ereg (hlda rfl rfl (lc rfl (lc rfl (lc rfl (lc rfl (lc rfl (ln rfl)))))) (hal (dc (dc (dc dn rfl) rfl) rfl) (hstl rfl rfl rfl rfl (Nat.le_of_ble_eq_true rfl) (lc rfl (lc rfl (lc rfl (lc rfl (lc rfl (ln rfl)))))) (qk (kc rfl (kc rfl (kc rfl kn))) (kc rfl (kc rfl (kc rfl kn))) (sqn (eseq (ereg (qp rfl (hstl rfl rfl rfl rfl (Nat.le_of_ble_eq_true rfl) (lc rfl (lc rfl (lc rfl (lc rfl (lc rfl (ln rfl)))))) (qp rfl (hstl rfl rfl rfl rfl (Nat.le_of_ble_eq_true rfl) (lc rfl (lc rfl (lc rfl (lc rfl (lc rfl (ln rfl)))))) (qk (kc rfl (kc rfl (kc rfl kn))) (kc rfl (kc rfl (kc rfl kn))) (sqn (eseq (eseq (ereg ?_)))))))))))))))))))))))
 refine qp rfl (qp rfl (qp rfl (qp rfl (qk (kc rfl (kc rfl (kc rfl (kc rfl (kc rfl (kc rfl kn)))))) (kc rfl (kc rfl (kc rfl kn))) (sqn (eblock (copy_l1 a hz H1 0 (by omega) .full (.inl rfl) ?_)))))))
 ·intro j n1 v1 o1
  refine bqx (sqn (eseq (eseq (ereg (qp rfl (qp rfl (qp rfl (qp rfl (qk (kc rfl (kc rfl (kc rfl (kc rfl (kc rfl kn))))) (kc rfl (kc rfl kn)) (sqn (eblock (copy_l2 a hz H2 o1 0 (by omega) .full (.inl rfl) ?_))))))))))))
  ·intro j2 n2 v2 o2
   refine bqx (sqn (eseq (ereg (hlda rfl rfl (lc rfl (lc rfl (lc rfl (lc rfl (lc rfl (ln rfl)))))) (hstl rfl rfl rfl rfl (Nat.le_of_ble_eq_true rfl) (lc rfl (lc rfl (lc rfl (lc rfl (lc rfl (ln rfl)))))) (qk (kc rfl kn) (kc rfl kn) (sqn (eret (fqr rfl ?_)))))))))
   exact ⟨rfl,rfl⟩
theorem Copy_c (a:Node) (hz:a.sz ≤ 2 ^ 30):CopyC a:=by
 induction a using Node.ind with
 | h a ih1 ih2 =>
   exact copy_c0 a hz (fun b hb=>ih1 b hb (by have:=Node.sz_arg hb;omega)) (fun b hb=>ih2 b hb (by have:=Node.sz_br hb;have:=b.sz_body;omega))
theorem dcopy_l2 (l:List Decl) (oo:Own) (xl:List AV) (i:Nat) (d:Decl) (hz:szL Decl.sz l ≤ 2 ^ 30) (hd0:l[i]?=some d) (hll:l.length ≤ 2 ^ 30) (k:Nat) (hk:k ≤ d.xtors.length) (o:Own) (n0:Nat) {v0:Nat → Bool} {n:Nat} {v:Nat → Bool} {D:List (Nat × List AV)} {S:Sg} {Q:Ex → Fr → Prop} (hn:n0 ≤ n) (hv0:∀ t,t < n0 → v t=v0 t) (hc:CanM n0 o v n)
 (hX:∀ j n' v' o',n0 ≤ n' → (∀ t,t < n0 → v' t=v0 t) → Q (.exit 2) ⟨upd (upd (upd (upd (upd (upd (upd (upd (upd (upd ((fun _=>none)) 19 (some (.val (B false)))) 18 (some (.val (I j)))) 17 (some (.val (I (d.xtors.map Xtor.enc).length)))) 16 (some (.val (SL 2 (d.xtors.map Xtor.enc))))) 11 (some (.val (I i)))) 10 (some (.val (I (l.map Decl.enc).length)))) 9 (some (.val (SL 3 (l.map Decl.enc))))) 6 (some (.val (.slice o' 2 (d.xtors.map Xtor.enc))))) 5 (some (.loc 5 0))) 3 (some (.val (.slice oo 3 xl))),upd ((fun _=>none)) 5 (some ([Str d.name,B d.codata,SL 2 (d.xtors.map Xtor.enc)])),n',v',D,S⟩):EX (callL p) (.loop F64_l2) ⟨upd (upd (upd (upd (upd (upd (upd (upd (upd ((fun _=>none)) 18 (some (.val (I k)))) 17 (some (.val (I (d.xtors.map Xtor.enc).length)))) 16 (some (.val (SL 2 (d.xtors.map Xtor.enc))))) 11 (some (.val (I i)))) 10 (some (.val (I (l.map Decl.enc).length)))) 9 (some (.val (SL 3 (l.map Decl.enc))))) 6 (some (.val (.slice o 2 ((d.xtors.take k).map Xtor.enc))))) 5 (some (.loc 5 0))) 3 (some (.val (.slice oo 3 xl))),upd ((fun _=>none)) 5 (some ([Str d.name,B d.codata,SL 2 (d.xtors.map Xtor.enc)])),n,v,D,S⟩ Q:=by
 refine eloop (eseq (ereg (qp rfl (qb ?_))))
 rintro (_ | _) h1
 ·refine qk (kc rfl (kc rfl (kc rfl (kc rfl (kc rfl (kc rfl (kc rfl (kc rfl (kc rfl (kc rfl kn)))))))))) (kc rfl kn) (sqn (eseq (ecF rfl (eexit (sqx ?_)))))
  have e:d.xtors.take k=d.xtors:=List.take_of_length_le (by simp at h1;omega)
  rw [e]
  exact hX _ _ _ _ hn hv0
 ·refine qk (kc rfl (kc rfl (kc rfl (kc rfl (kc rfl (kc rfl (kc rfl (kc rfl (kc rfl (kc rfl kn)))))))))) (kc rfl kn) (sqn (eseq (ecT rfl (eskip (sqn (eseq (eblock (eseq (ereg ?_)))))))))
  have hlt:k < d.xtors.length:=by simpa using h1
  have hdz:=szL_mem (f:=Decl.sz) (List.mem_of_getElem? hd0)
  have hdx:=Decl.sz_xtors d
  have hlx:=szL_len' (f:=Xtor.sz) d.xtors Xtor.one
  obtain ⟨x,hx0⟩:=get_of_lt hlt
  have hxz:=szL_mem (f:=Xtor.sz) (List.mem_of_getElem? hx0)
  have hxa:=Xtor.sz_args x
  refine hia (y:=Xtor.enc x) rfl rfl (by omega) (by simp [hx0]) rfl (hlda rfl rfl (lc rfl (lc rfl (ln rfl))) (hal (dc (dc (dc (dc (dc (dc (dc (dc (dc (dc (dc (dc dn rfl) rfl) rfl) rfl) rfl) rfl) rfl) rfl) rfl) rfl) rfl) rfl) (hstl rfl rfl rfl rfl (Nat.le_of_ble_eq_true rfl) (lc rfl (lc rfl (ln rfl))) (qk (kc rfl (kc rfl (kc rfl (kc rfl (kc rfl (kc rfl (kc rfl (kc rfl (kc rfl (kc rfl kn)))))))))) (kc rfl (kc rfl kn)) (sqn (ereg (qp rfl (qp rfl (qp rfl (qp rfl (qp rfl (hapK rfl rfl (by simp;omega) ?_))))))))))))
  intro o1 n1 v1 hn1 hk1
  refine hbuild rfl rfl (lc rfl (lc rfl (ln rfl))) (hbsl (q':=[Xtor.enc x]) rfl rfl rfl (hapC (r:=(d.xtors.take (k + 1)).map Xtor.enc) rfl rfl (hc.up hn1 hk1).can (by simp) (by simp;omega) (by simp [List.take_add_one,hx0]) ?_))
  intro v2 hc1 hv2
  refine qp rfl (qk (kc rfl (kc rfl (kc rfl (kc rfl (kc rfl (kc rfl (kc rfl (kc rfl (kc rfl kn))))))))) (kc rfl kn) (bqn (sqn (ereg (hadd rfl rfl (i64w (by omega)) (qp rfl (qk (kc rfl (kc rfl (kc rfl (kc rfl (kc rfl (kc rfl (kc rfl (kc rfl (kc rfl kn))))))))) (kc rfl kn) ?_)))))))
  exact dcopy_l2 l oo xl i d hz hd0 hll (k + 1) (by omega) _ n0 (by omega) (fun t ht=>((hc.up hn1 hk1).old (by omega) hv2 t ht).trans ((hk1 t (by omega)).trans (hv0 t ht))) (CanM.new hc1 (by omega)) hX
termination_by d.xtors.length - k
decreasing_by all_goals omega
theorem dcopy_l1 (l:List Decl) (hz:szL Decl.sz l ≤ 2 ^ 30) (i:Nat) (hi:i ≤ l.length) (o:Own) {n:Nat} {v:Nat → Bool} {D:List (Nat × List AV)} {S:Sg} {Q:Ex → Fr → Prop} (hc:CanM 0 o v n)
 (hX:∀ j n' v' o',Q (.exit 0) ⟨upd (upd (upd (upd (upd ((fun _=>none)) 12 (some (.val (B false)))) 11 (some (.val (I j)))) 10 (some (.val (I (l.map Decl.enc).length)))) 9 (some (.val (SL 3 (l.map Decl.enc))))) 3 (some (.val (.slice o' 3 (l.map Decl.enc)))),(fun _=>none),n',v',D,S⟩):EX (callL p) (.loop F64_l1) ⟨upd (upd (upd (upd ((fun _=>none)) 11 (some (.val (I i)))) 10 (some (.val (I (l.map Decl.enc).length)))) 9 (some (.val (SL 3 (l.map Decl.enc))))) 3 (some (.val (.slice o 3 ((l.take i).map Decl.enc)))),(fun _=>none),n,v,D,S⟩ Q:=by
 refine eloop (eseq (ereg (qp rfl (qb ?_))))
 rintro (_ | _) h1
 ·refine qk (kc rfl (kc rfl (kc rfl (kc rfl (kc rfl kn))))) kn (sqn (eseq (ecF rfl (eexit (sqx ?_)))))
  have e:l.take i=l:=List.take_of_length_le (by simp at h1;omega)
  rw [e]
  exact hX _ _ _ _
 ·refine qk (kc rfl (kc rfl (kc rfl (kc rfl (kc rfl kn))))) kn (sqn (eseq (ecT rfl (eskip (sqn (eseq (eblock (eseq (ereg ?_)))))))))
  have hlt:i < l.length:=by simpa using h1
  have hll:=szL_len' (f:=Decl.sz) l Decl.one
  obtain ⟨d,hd0⟩:=get_of_lt hlt
  refine hia (y:=Decl.enc d) rfl rfl (by omega) (by simp [hd0]) rfl (hlda rfl rfl (lc rfl (lc rfl (lc rfl (ln rfl)))) (hal (dc (dc (dc (dc (dc (dc (dc dn rfl) rfl) rfl) rfl) rfl) rfl) rfl) (hstl rfl rfl rfl rfl (Nat.le_of_ble_eq_true rfl) (lc rfl (lc rfl (lc rfl (ln rfl)))) (qk (kc rfl (kc rfl (kc rfl (kc rfl (kc rfl kn))))) (kc rfl kn) (sqn (eseq (ereg (qp rfl (qk (kc rfl (kc rfl (kc rfl (kc rfl (kc rfl (kc rfl kn)))))) (kc rfl kn) (sqn (eseq (eseq (ereg (qp rfl (qp rfl (qp rfl (qp rfl (qk (kc rfl (kc rfl (kc rfl (kc rfl (kc rfl (kc rfl (kc rfl (kc rfl (kc rfl kn))))))))) (kc rfl kn) (sqn (eblock (dcopy_l2 l o ((l.take i).map Decl.enc) i d hz hd0 (by omega) 0 (by omega) .full n (v0:=v) (Nat.le_refl _) (fun _ _=>rfl) (.inl rfl) ?_)))))))))))))))))))))
  ·intro j n1 v1 o1 hn1 hk1
   refine bqx (sqn (ereg (qp rfl (qp rfl (qp rfl (qp rfl (qp rfl (qp rfl (hbuild rfl rfl (lc rfl (lc rfl (lc rfl (ln rfl)))) (hbsl (q':=[Decl.enc d]) rfl rfl rfl (hapC (r:=(l.take (i + 1)).map Decl.enc) rfl rfl (hc.up hn1 hk1).can (by simp) (by simp;omega) (by simp [List.take_add_one,hd0]) ?_)))))))))))
   intro v2 hc1 hv2
   refine qp rfl (qk (kc rfl (kc rfl (kc rfl (kc rfl kn)))) kn (bqn (sqn (ereg (hadd rfl rfl (i64w (by omega)) (qp rfl (qk (kc rfl (kc rfl (kc rfl (kc rfl kn)))) kn ?_)))))))
   exact dcopy_l1 l hz (i + 1) (by omega) _ (CanM.new hc1 (by omega)) hX
termination_by l.length - i
decreasing_by all_goals omega
theorem DCopy_c (s:Sg) (l:List Decl) (hz:szL Decl.sz l ≤ 2 ^ 30):HC p N64_ [SL 3 (l.map Decl.enc)] s (fun r s'=>r=[SL 3 (l.map Decl.enc)] ∧ s'=s):=by
 refine hcf rfl f64_ rfl ?_
 simp only [chainOf]
 refine eseq (ereg (qp rfl (qk (kc rfl kn) kn (sqn (eseq (ereg (qp rfl (qk (kc rfl (kc rfl kn)) kn (sqn (eseq (eseq (ereg (qp rfl (qp rfl (qp rfl (qk (kc rfl (kc rfl (kc rfl (kc rfl kn)))) kn (sqn (eblock (dcopy_l1 l hz 0 (by omega) .full (.inl rfl) ?_)))))))))))))))))))
 ·intro j n1 v1 o1
  refine bqx (sqn (eseq (ereg (qp rfl (qp rfl (qk (kc rfl kn) kn (sqn (eret (fqr rfl ?_)))))))))
  exact ⟨rfl,rfl⟩
theorem ccopy_l (c:Core) (hz:szL CFun.sz c.funs ≤ 2 ^ 30) (hf:c.funs.length ≤ 2 ^ 30) (i:Nat) (hi:i ≤ c.funs.length) (o:Own) {n:Nat} {v:Nat → Bool} {D:List (Nat × List AV)} {S:Sg} {Q:Ex → Fr → Prop} (hc:CanM 0 o v n)
 (hX:∀ j n' v' o',Q (.exit 0) ⟨upd (upd (upd (upd (upd (upd ((fun _=>none)) 14 (some (.val (B false)))) 13 (some (.val (I j)))) 12 (some (.val (I (c.funs.map CFun.enc).length)))) 11 (some (.val (SL 8 (c.funs.map CFun.enc))))) 3 (some (.loc 3 0))) 2 (some (.loc 2 0)),upd (upd ((fun _=>none)) 3 (some ([SL 3 (c.decls.map Decl.enc),.slice o' 8 (c.funs.map CFun.enc)]))) 2 (some ([.slice .full 3 [],.slice .full 8 []])),n',v',D,S⟩):EX (callL p) (.loop F20_l1) ⟨upd (upd (upd (upd (upd ((fun _=>none)) 13 (some (.val (I i)))) 12 (some (.val (I (c.funs.map CFun.enc).length)))) 11 (some (.val (SL 8 (c.funs.map CFun.enc))))) 3 (some (.loc 3 0))) 2 (some (.loc 2 0)),upd (upd ((fun _=>none)) 3 (some ([SL 3 (c.decls.map Decl.enc),.slice o 8 ((c.funs.take i).map CFun.enc)]))) 2 (some ([.slice .full 3 [],.slice .full 8 []])),n,v,D,S⟩ Q:=by
 refine eloop (eseq (ereg (qp rfl (qb ?_))))
 rintro (_ | _) h1
 ·refine qk (kc rfl (kc rfl (kc rfl (kc rfl (kc rfl (kc rfl kn)))))) (kc rfl (kc rfl kn)) (sqn (eseq (ecF rfl (eexit (sqx ?_)))))
  have e:c.funs.take i=c.funs:=List.take_of_length_le (by simp at h1;omega)
  rw [e]
  exact hX _ _ _ _
 ·refine qk (kc rfl (kc rfl (kc rfl (kc rfl (kc rfl (kc rfl kn)))))) (kc rfl (kc rfl kn)) (sqn (eseq (ecT rfl (eskip (sqn (eseq (eblock (eseq (ereg ?_)))))))))
  have hlt:i < c.funs.length:=by simpa using h1
  obtain ⟨b,hb⟩:=get_of_lt hlt
  have hbz:=szL_mem (f:=CFun.sz) (List.mem_of_getElem? hb)
  have hp1:=CFun.sz_par b
  have hp2:=CFun.sz_var b
  have hp3:=CFun.sz_bod b
  refine hia (y:=.agg (Str b.name :: encArgs b.params :: ints b.vars :: b.body.cs)) rfl rfl (by omega) (by simp [hb,CFun.enc_eq]) rfl (hlda rfl rfl (lc rfl (lc rfl (lc rfl (lc rfl (lc rfl (lc rfl (lc rfl (lc rfl (ln rfl))))))))) (hal (dc (dc (dc (dc (dc (dc (dc (dc dn rfl) rfl) rfl) rfl) rfl) rfl) rfl) rfl) (hstl rfl rfl rfl rfl (Nat.le_of_ble_eq_true rfl) (lc rfl (lc rfl (lc rfl (lc rfl (lc rfl (lc rfl (lc rfl (lc rfl (ln rfl))))))))) (qk (kc rfl (kc rfl (kc rfl (kc rfl (kc rfl (kc rfl kn)))))) (kc rfl (kc rfl (kc rfl kn))) (sqn (ereg (qp rfl (qp rfl (qp rfl (qp rfl (qp rfl (qp rfl (hapK rfl rfl (by simp;omega) ?_)))))))))))))
  intro o1 n1 v1 hn1 hk1
  refine qp rfl (qp rfl (hapK rfl rfl (by simp;omega) ?_))
  intro o2 n2 v2 hn2 hk2
  refine qp rfl (hlda rfl rfl (lc rfl (lc rfl (lc rfl (lc rfl (lc rfl (ln rfl)))))) (hcall rfl rfl rfl (Copy_c b.body (by omega) _) ?_))
  rintro _ _ ⟨rfl,rfl⟩
  refine hbuild rfl rfl (lc rfl (lc rfl (lc rfl (lc rfl (lc rfl (lc rfl (lc rfl (lc rfl (ln rfl))))))))) (hbsl (q':=[CFun.enc b]) rfl rfl (by rw [CFun.enc_eq];rfl) (hapC (r:=(c.funs.take (i + 1)).map CFun.enc) rfl rfl ((hc.up hn1 hk1).up hn2 hk2).can (by simp) (by simp;omega) (by simp [List.take_add_one,hb]) ?_))
  intro v3 hc1 hv3
  refine qp rfl (hstl rfl rfl rfl rfl (Nat.le_of_ble_eq_true rfl) (lc rfl (lc rfl (ln rfl))) (qk (kc rfl (kc rfl (kc rfl (kc rfl (kc rfl kn))))) (kc rfl (kc rfl kn)) (bqn (sqn (ereg (hadd rfl rfl (i64w (by omega)) (qp rfl (qk (kc rfl (kc rfl (kc rfl (kc rfl (kc rfl kn))))) (kc rfl (kc rfl kn)) ?_))))))))
  exact ccopy_l c hz hf (i + 1) (by omega) _ (CanM.new hc1 (Nat.zero_le _)) hX
termination_by c.funs.length - i
decreasing_by all_goals omega
theorem CopyCore_c (s:Sg) (c:Core) (hz:c.sz ≤ 2 ^ 30):HC p N20_ [.agg (Core.cs c)] s (fun r s'=>r=[.agg (Core.cs c)] ∧ s'=s):=by
 have hz1:szL Decl.sz c.decls ≤ 2 ^ 30:=by unfold Core.sz at hz;omega
 have hz2:szL CFun.sz c.funs ≤ 2 ^ 30:=by unfold Core.sz at hz;omega
 refine hcf rfl f20_ rfl ?_
 simp only [chainOf]
 refine eseq (ereg (hbox (dc dn rfl) rfl (lc rfl (lc rfl (ln rfl))) (hal (dc (dc dn rfl) rfl) (qk (kc rfl (kc rfl kn)) (kc rfl (kc rfl kn)) (sqn (eseq (ereg (qp rfl (qp rfl (hcall rfl rfl rfl (DCopy_c _ _ hz1) ?_))))))))))
 rintro _ _ ⟨rfl,rfl⟩
 refine hbuild rfl rfl (lc rfl (lc rfl (ln rfl))) (hal (dc (dc (dc (dc (dc (dc dn rfl) rfl) rfl) rfl) rfl) rfl) (hstl rfl rfl rfl rfl (Nat.le_of_ble_eq_true rfl) (lc rfl (lc rfl (ln rfl))) (qk (kc rfl (kc rfl (kc rfl kn))) (kc rfl (kc rfl (kc rfl kn))) (sqn (eseq (eseq (ereg (qp rfl (qp rfl (qp rfl (qp rfl (qk (kc rfl (kc rfl (kc rfl (kc rfl (kc rfl kn))))) (kc rfl (kc rfl kn)) (sqn (eblock (ccopy_l c hz2 (by have:=szL_len' (f:=CFun.sz) c.funs CFun.one;omega) 0 (by omega) .full (.inl rfl) ?_)))))))))))))))
 ·intro j n1 v1 o1
  refine bqx (sqn (eseq (ereg (hlda rfl rfl (lc rfl (lc rfl (ln rfl))) (hstl rfl rfl rfl rfl (Nat.le_of_ble_eq_true rfl) (lc rfl (lc rfl (ln rfl))) (qk (kc rfl kn) (kc rfl kn) (sqn (eret (fqr rfl ?_)))))))))
  exact ⟨rfl,rfl⟩
end Go.Sim.Kd
namespace Go.Sim.Kd
open Go Go.Sim
theorem ereg_2 {c:Caller} {l:List AIns} {a b:Nat} {k kl:List Nat} {E E1 E2:Nat → Option TV} {L:Nat → Option (List AV)} {n:Nat} {v:Nat → Bool} {D:List (Nat × List AV)} {S:Sg} {Q:Ex → Fr → Prop} (h1:dropL b E=E1) (h2:dropL a E1=E2)
 (h:HL c l ⟨E2,upd (upd L b none) a none,n,v,D,S⟩ (KQ k kl Q)):EX c (.reg l [a,b] k kl) ⟨E,L,n,v,D,S⟩ Q:=by
 subst h1
 subst h2
 exact eregf h
theorem KindOwn_c (s:Sg) (hQ:QOK s) (c:Core) (xs ys g0 g1:List Int) (nd:Node) (hcz:c.sz ≤ 2 ^ 30) (h1x:xs.length ≤ 2 ^ 30) (h1a:ys.length ≤ 2 ^ 30) (h10:g0.length ≤ 2 ^ 30) (h11:g1.length ≤ 2 ^ 30) (hz:nd.sz ≤ 2 ^ 30):HC p N5_ [.agg (Core.cs c),ints xs,ints ys,.agg [ints g0,ints g1],.agg nd.cs] s (fun r s'=>r=[B true]):=by
 have hc:=SzC.of (c:=c) (by omega)
 refine hcf rfl f5_ rfl ?_
 simp only [chainOf]
 refine eseq (ereg (hbox (dc (dc (dc (dc (dc dn rfl) rfl) rfl) rfl) rfl) rfl (lc rfl (lc rfl (ln rfl))) (hbox (dc (dc (dc (dc (dc (dc dn rfl) rfl) rfl) rfl) rfl) rfl) rfl (lc rfl (lc rfl (ln rfl))) (hbox (dc (dc (dc (dc (dc (dc (dc dn rfl) rfl) rfl) rfl) rfl) rfl) rfl) rfl (lc rfl (lc rfl (lc rfl (lc rfl (lc rfl (ln rfl)))))) (qp rfl (qk (kc rfl (kc rfl (kc rfl (kc rfl (kc rfl kn))))) (kc rfl (kc rfl (kc rfl kn))) (sqn (eseq (eseq (ereg (hlda rfl rfl (lc rfl (lc rfl (ln rfl))) (hcall rfl rfl rfl (Few_c _ c hc.z 3000 (by omega) (by omega)) ?_))))))))))))
 rintro _ _ ⟨rfl,hq⟩
 obtain rfl:=hq.symm
 refine qb ?_
 rintro (_ | _) h1
 ·refine qp rfl (qp rfl (qs rfl rfl (by decide) (qs rfl rfl (by decide) (qs rfl rfl (by decide) (qp rfl (qp rfl (qs rfl rfl (by decide) (qs rfl rfl (by decide) (qs rfl rfl (by decide) (qs rfl rfl (by decide) (qs rfl rfl (by decide) (qs rfl rfl (by decide) (qs rfl rfl (by decide) (qs rfl rfl (by decide) (qs rfl rfl (by decide) (qs rfl rfl (by decide) (qs rfl rfl (by decide) (qs rfl rfl (by decide) (qs rfl rfl (by decide) (qs rfl rfl (by decide) (qp rfl (qk (kc rfl (kc rfl (kc rfl (kc rfl (kc rfl (kc rfl kn)))))) (kc rfl (kc rfl (kc rfl kn))) (sqn ?_)))))))))))))))))))))))
  refine ecT rfl (eseq (ereg (hcall rfl rfl rfl (awake_c _ hQ) ?_)))
  rintro _ S9 ⟨rfl,hx9⟩
  refine qp rfl (qk (kc rfl kn) kn (sqn (eret (sqr (fqr rfl ?_)))))
  first
  | rfl
  | (exfalso;simp_all;done)
 ·refine qp rfl (qp rfl (qg rfl (hlda rfl rfl (lc rfl (lc rfl (lc rfl (lc rfl (lc rfl (ln rfl)))))) (qg rfl (hcall rfl rfl rfl (Fits_c _ nd (by omega) 3000 (by omega) (by omega)) ?_)))))
  rintro _ _ ⟨rfl,hq⟩
  obtain rfl:=hq.symm
  refine qb ?_
  rintro (_ | _) h2
  ·refine qg rfl (qp rfl (qp rfl (qp rfl (qs rfl rfl (by decide) (qs rfl rfl (by decide) (qs rfl rfl (by decide) (qs rfl rfl (by decide) (qs rfl rfl (by decide) (qs rfl rfl (by decide) (qs rfl rfl (by decide) (qs rfl rfl (by decide) (qs rfl rfl (by decide) (qs rfl rfl (by decide) (qs rfl rfl (by decide) (qs rfl rfl (by decide) (qs rfl rfl (by decide) (qs rfl rfl (by decide) (qp rfl (qk (kc rfl (kc rfl (kc rfl (kc rfl (kc rfl (kc rfl kn)))))) (kc rfl (kc rfl (kc rfl kn))) (sqn (ecT rfl (eseq (ereg ?_)))))))))))))))))))))))
   refine hcall rfl rfl rfl (awake_c _ hQ) ?_
   rintro _ S9 ⟨rfl,hx9⟩
   refine qp rfl (qk (kc rfl kn) kn (sqn (eret (sqr (fqr rfl ?_)))))
   first
   | rfl
   | (exfalso;simp_all;done)
  ·refine qg rfl (qp rfl (qp rfl (qp rfl (qg rfl (qp rfl (qg rfl (qp rfl (qg rfl (qp rfl (qg rfl (qp rfl (qg rfl (hadd rfl rfl (i64w (by first | omega | (simp;omega))) (qg rfl (qp rfl (qg rfl (qp rfl (qg rfl (qp rfl (qg rfl (hadd rfl rfl (i64w (by first | omega | (simp;omega))) (qg rfl (qp rfl ?_)))))))))))))))))))))))
   refine qg rfl (qp rfl (qg rfl (qp rfl (qg rfl (hadd rfl rfl (i64w (by first | omega | (simp;omega))) (qg rfl (qp rfl (qb ?_))))))))
   rintro (_ | _) h3
   ·refine qp rfl (qk (kc rfl (kc rfl (kc rfl (kc rfl (kc rfl (kc rfl kn)))))) (kc rfl (kc rfl (kc rfl kn))) (sqn (ecF rfl (eskip (sqn (eseq (ereg_2 (dc (dc (dc (dc (dc (dc dn rfl) rfl) rfl) rfl) rfl) rfl) (dc (dc (dc (dc (dc (dc dn rfl) rfl) rfl) rfl) rfl) rfl) (hlda rfl rfl (lc rfl (lc rfl (ln rfl))) (hcall rfl rfl rfl (CopyCore_c _ c hcz) ?_)))))))))
    rintro _ _ ⟨rfl,hq⟩
    obtain rfl:=hq.symm
    refine hlda rfl rfl (lc rfl (lc rfl (lc rfl (lc rfl (lc rfl (ln rfl)))))) (hcall rfl rfl rfl (Copy_c nd hz _) ?_)
    rintro _ _ ⟨rfl,hq⟩
    obtain rfl:=hq.symm
    refine hal (dc (dc (dc (dc (dc (dc (dc (dc (dc (dc dn rfl) rfl) rfl) rfl) rfl) rfl) rfl) rfl) rfl) rfl) (hal (dc (dc (dc (dc (dc (dc (dc (dc (dc (dc (dc dn rfl) rfl) rfl) rfl) rfl) rfl) rfl) rfl) rfl) rfl) rfl) (hstl rfl rfl rfl rfl (Nat.le_of_ble_eq_true rfl) (lc rfl (lc rfl (ln rfl))) (hstl rfl rfl rfl rfl (Nat.le_of_ble_eq_true rfl) (lc rfl (lc rfl (lc rfl (lc rfl (lc rfl (ln rfl)))))) (qk (kc rfl (kc rfl (kc rfl (kc rfl (kc rfl (kc rfl (kc rfl kn))))))) (kc rfl (kc rfl (kc rfl (kc rfl (kc rfl kn))))) (sqn (eseq (ereg (qp rfl (hapK rfl rfl (by simp;omega) ?_)))))))))
    intro o1 n1 v1 hn1 hk1
    refine qp rfl (hapK rfl rfl (by simp;omega) ?_)
    intro o2 n2 v2 hn2 hk2
    refine qp rfl (qp rfl (qk (kc rfl (kc rfl (kc rfl (kc rfl (kc rfl (kc rfl (kc rfl (kc rfl (kc rfl kn))))))))) (kc rfl (kc rfl (kc rfl (kc rfl (kc rfl kn))))) (sqn (eseq (ereg (qp rfl (qp rfl (hapK rfl rfl (by simp;omega) ?_))))))))
    intro o3 n3 v3 hn3 hk3
    refine qp rfl (qp rfl (hapK rfl rfl (by simp;omega) ?_))
    intro o4 n4 v4 hn4 hk4
    refine qp rfl (qp rfl (qk (kc rfl (kc rfl (kc rfl (kc rfl (kc rfl (kc rfl (kc rfl (kc rfl (kc rfl (kc rfl (kc rfl kn))))))))))) (kc rfl (kc rfl (kc rfl (kc rfl (kc rfl kn))))) (sqn (eseq (ereg (hlda rfl rfl (lc rfl (lc rfl (ln rfl))) (hcall rfl rfl rfl (Check_c _ hQ c hc.hc hc.fv hc.bz hc.fl) ?_)))))))
    rintro _ S1 ⟨rfl,hx1⟩
    refine qk (kc rfl (kc rfl (kc rfl (kc rfl (kc rfl (kc rfl (kc rfl (kc rfl (kc rfl (kc rfl (kc rfl kn))))))))))) (kc rfl (kc rfl (kc rfl (kc rfl (kc rfl kn))))) (sqn (eseq (ereg ?_)))
    obtain ⟨tt,ee,hte,_⟩:=typeR_two c xs ys g0 g1 nd
    refine hlda rfl rfl (lc rfl (lc rfl (ln rfl))) (qp rfl (qp rfl (hlda rfl rfl (lc rfl (lc rfl (ln rfl))) (hlda rfl rfl (lc rfl (lc rfl (lc rfl (lc rfl (lc rfl (ln rfl)))))) (hcall rfl rfl rfl (Type_c _ (hQ.ext hx1) c hc.hc hc.fv hc.bz xs ys g0 g1 nd (by omega) (by omega) (by omega)) ?_)))))
    rintro _ S2 ⟨rfl,hx2⟩
    rw [hte]
    refine qk (kc rfl (kc rfl (kc rfl (kc rfl (kc rfl (kc rfl (kc rfl (kc rfl (kc rfl (kc rfl (kc rfl kn))))))))))) (kc rfl (kc rfl (kc rfl (kc rfl (kc rfl kn))))) (sqn (eseq (ereg (qp rfl (qk (kc rfl (kc rfl (kc rfl (kc rfl (kc rfl (kc rfl (kc rfl (kc rfl (kc rfl (kc rfl (kc rfl (kc rfl kn)))))))))))) (kc rfl (kc rfl (kc rfl (kc rfl (kc rfl kn))))) (sqn (eseq (ereg (hlda rfl rfl (lc rfl (lc rfl (ln rfl))) (hlda rfl rfl (lc rfl (lc rfl (ln rfl))) (hcall rfl rfl rfl (ExactCore_c _ c hc.z) ?_)))))))))))
    rintro _ _ ⟨rfl,hq⟩
    obtain rfl:=hq.symm
    refine qb ?_
    rintro (_ | _) h4
    ·refine qp rfl (qs rfl rfl (by decide) (qs rfl rfl (by decide) (qs rfl rfl (by decide) (qp rfl (qp rfl (qs rfl rfl (by decide) (qs rfl rfl (by decide) (qs rfl rfl (by decide) (qs rfl rfl (by decide) (qp rfl (qp rfl (qs rfl rfl (by decide) (qs rfl rfl (by decide) (qs rfl rfl (by decide) (qs rfl rfl (by decide) (qp rfl (qp rfl (qs rfl rfl (by decide) (qs rfl rfl (by decide) (qs rfl rfl (by decide) (qs rfl rfl (by decide) (qs rfl rfl (by decide) (qp rfl ?_)))))))))))))))))))))))
     refine qp rfl (qs rfl rfl (by decide) (qs rfl rfl (by decide) (qs rfl rfl (by decide) (qs rfl rfl (by decide) (qs rfl rfl (by decide) (qp rfl (qp rfl (qs rfl rfl (by decide) (qp rfl (qp rfl (qk (kc rfl kn) kn (sqn (eret (fqr rfl ?_))))))))))))))
     first
     | rfl
     | (exfalso;simp_all;done)
    ·refine qp rfl (qg rfl (hlda rfl rfl (lc rfl (lc rfl (lc rfl (lc rfl (lc rfl (ln rfl)))))) (qg rfl (hlda rfl rfl (lc rfl (lc rfl (lc rfl (lc rfl (lc rfl (ln rfl)))))) (qg rfl (hcall rfl rfl rfl (Exact_c nd (by omega) _) ?_))))))
     rintro _ _ ⟨rfl,hq⟩
     obtain rfl:=hq.symm
     refine qb ?_
     rintro (_ | _) h5
     ·refine qp rfl (qp rfl (qs rfl rfl (by decide) (qs rfl rfl (by decide) (qs rfl rfl (by decide) (qs rfl rfl (by decide) (qp rfl (qp rfl (qs rfl rfl (by decide) (qs rfl rfl (by decide) (qs rfl rfl (by decide) (qs rfl rfl (by decide) (qp rfl (qp rfl (qs rfl rfl (by decide) (qs rfl rfl (by decide) (qs rfl rfl (by decide) (qs rfl rfl (by decide) (qs rfl rfl (by decide) (qp rfl (qp rfl (qs rfl rfl (by decide) (qs rfl rfl (by decide) (qs rfl rfl (by decide) ?_)))))))))))))))))))))))
      refine qs rfl rfl (by decide) (qs rfl rfl (by decide) (qp rfl (qp rfl (qs rfl rfl (by decide) (qp rfl (qp rfl (qk (kc rfl kn) kn (sqn (eret (fqr rfl ?_))))))))))
      first
      | rfl
      | (exfalso;simp_all;done)
     ·refine qp rfl (qp rfl (qg rfl (qp rfl (qg rfl (qp rfl (qg rfl (qp rfl (qg rfl (hcall rfl rfl rfl (SameInts_c _ xs xs (by omega)) ?_)))))))))
      rintro _ _ ⟨rfl,hq⟩
      obtain rfl:=hq.symm
      refine qb ?_
      rintro (_ | _) h6
      ·refine qp rfl (qp rfl (qs rfl rfl (by decide) (qs rfl rfl (by decide) (qs rfl rfl (by decide) (qs rfl rfl (by decide) (qp rfl (qp rfl (qs rfl rfl (by decide) (qs rfl rfl (by decide) (qs rfl rfl (by decide) (qs rfl rfl (by decide) (qs rfl rfl (by decide) (qp rfl (qp rfl (qs rfl rfl (by decide) (qs rfl rfl (by decide) (qs rfl rfl (by decide) (qs rfl rfl (by decide) (qs rfl rfl (by decide) (qp rfl (qp rfl (qs rfl rfl (by decide) (qp rfl ?_)))))))))))))))))))))))
       refine qp rfl (qk (kc rfl kn) kn (sqn (eret (fqr rfl ?_))))
       first
       | rfl
       | (exfalso;simp_all;done)
      ·refine qp rfl (qp rfl (qg rfl (qp rfl (qg rfl (qp rfl (qg rfl (qp rfl (qg rfl (hcall rfl rfl rfl (SameInts_c _ ys ys (by omega)) ?_)))))))))
       rintro _ _ ⟨rfl,hq⟩
       obtain rfl:=hq.symm
       refine qb ?_
       rintro (_ | _) h7
       ·refine qp rfl (qp rfl (qs rfl rfl (by decide) (qs rfl rfl (by decide) (qs rfl rfl (by decide) (qs rfl rfl (by decide) (qs rfl rfl (by decide) (qp rfl (qp rfl (qs rfl rfl (by decide) (qs rfl rfl (by decide) (qs rfl rfl (by decide) (qs rfl rfl (by decide) (qs rfl rfl (by decide) (qp rfl (qp rfl (qs rfl rfl (by decide) (qp rfl (qp rfl (qk (kc rfl kn) kn (sqn (eret (fqr rfl ?_))))))))))))))))))))))
        first
        | rfl
        | (exfalso;simp_all;done)
       ·refine qp rfl (qp rfl (qg rfl (qp rfl (qg rfl (qp rfl (qg rfl (qp rfl (qg rfl (qp rfl (qg rfl (hcall rfl rfl rfl (SameInts_c _ g0 g0 (by omega)) ?_)))))))))))
        rintro _ _ ⟨rfl,hq⟩
        obtain rfl:=hq.symm
        refine qb ?_
        rintro (_ | _) h8
        ·refine qp rfl (qp rfl (qs rfl rfl (by decide) (qs rfl rfl (by decide) (qs rfl rfl (by decide) (qs rfl rfl (by decide) (qs rfl rfl (by decide) (qp rfl (qp rfl (qs rfl rfl (by decide) (qp rfl (qp rfl (qk (kc rfl kn) kn (sqn (eret (fqr rfl ?_)))))))))))))))
         first
         | rfl
         | (exfalso;simp_all;done)
        ·refine qp rfl (qp rfl (qg rfl (qp rfl (qg rfl (qp rfl (qg rfl (qp rfl (qg rfl (qp rfl (qg rfl (hcall rfl rfl rfl (SameInts_c _ g1 g1 (by omega)) ?_)))))))))))
         rintro _ _ ⟨rfl,hq⟩
         obtain rfl:=hq.symm
         refine qb ?_
         rintro (_ | _) h9
         ·refine qp rfl (qp rfl (qs rfl rfl (by decide) (qp rfl (qp rfl (qk (kc rfl kn) kn (sqn (eret (fqr rfl ?_))))))))
          first
          | rfl
          | (exfalso;simp_all;done)
         ·refine qp rfl (qp rfl (qg rfl (hcall rfl rfl rfl (awake_c _ ((hQ.ext hx1).ext hx2)) ?_)))
          rintro _ S9 ⟨rfl,hx9⟩
          refine qp rfl (qp rfl (qk (kc rfl kn) kn (sqn (eret (fqr rfl ?_)))))
          first
          | rfl
          | (exfalso;simp_all;done)
   ·refine qp rfl (qk (kc rfl (kc rfl (kc rfl (kc rfl (kc rfl (kc rfl kn)))))) (kc rfl (kc rfl (kc rfl kn))) (sqn (ecT rfl (eseq (ereg (hcall rfl rfl rfl (awake_c _ hQ) ?_))))))
    rintro _ S9 ⟨rfl,hx9⟩
    refine qp rfl (qk (kc rfl kn) kn (sqn (eret (sqr (fqr rfl ?_)))))
    first
    | rfl
    | (exfalso;simp_all;done)
end Go.Sim.Kd
