/-
  A part of a proof: see the last text of this claim.
-/
import Derived.Test.YtljdbieojelmjaaGreatPJ
import Derived.Test.YtljdbieojelmjaaGreatPG
set_option linter.unusedVariables false
set_option linter.unusedSimpArgs false
namespace Go.Sim.W
open Go Go.Sim
def finR (q:VM × Int):VM:=if q.2=1 then q.1.end_ 2 else if q.2=2 then q.1.end_ 3 else if q.2=3 then q.1.end_ 0 else q.1
def TG (h:RH):Prop:=∀ o ∈ h.obs,0 ≤ o.tag
theorem obR_none {m:VM} (hv:validW m.h.obs m.regs=true) {r:Int} (h:m.obR r=none):(getR m.regs r).ref=false:=by
 cases hr:(getR m.regs r).ref with
 | false=>rfl
 | true =>
   obtain ⟨o,ho⟩:=Option.isSome_iff_exists.1 (getR_has hv hr)
   rw [VM.obR,if_pos hr,ho] at h
   cases h
theorem obR_some {m:VM} {r:Int} {o:HOb} (h:m.obR r=some o):(getR m.regs r).ref=true ∧ obAt m.h.obs (getR m.regs r).n=some o:=by
 unfold VM.obR at h
 split at h
 ·rename_i hr;exact ⟨hr,h⟩
 cases h
theorem loadS_eq (m:VM) (x:Instr):m.loadS x=match (m.obR x.b).bind fun o=>o.fs[x.n.toNat]? with
 | some w=>(m.put x.a w,0)
 | none=>(m,1):=by
 unfold VM.loadS VM.obR
 split
 ·rfl
 rfl
theorem tagR_none {m:VM} (hv:validW m.h.obs m.regs=true) {r:Int} (h:m.obR r=none):tagR m r=-1:=by
 rw [tagR,if_neg (by rw [obR_none hv h];decide)]
theorem tagR_some {m:VM} {r:Int} {o:HOb} (h:m.obR r=some o):tagR m r=o.tag:=by
 obtain ⟨h1,h2⟩:=obR_some h
 rw [tagR,if_pos h1,h2]
def VM.jumpS (m:VM) (x:Instr) (to:List Int):VM:=match (m.obR x.a).bind fun o=>to[o.tag.toNat]? with
 | none=>m.end_ 2
 | some a=>if x.op=8 then { m with regs:=getR m.regs x.a :: listR m.regs x.regs,at_:=a } else { m with at_:=a }
theorem choose_eq {m:VM} (hv:validW m.h.obs m.regs=true) (tg:TG m.h) {x:Instr} (hx:x.op ≠ 8):finR (m.chooseS x)=m.jumpS x x.to:=by
 unfold VM.jumpS VM.chooseS
 cases h:m.obR x.a with
 | none =>
   rw [tagR_none hv h,if_pos (by decide)]
   rfl
 | some o =>
   have h0:=tg o (obAt_mem (obR_some h).2)
   rw [tagR_some h,if_neg (by omega)]
   simp only [Obs]
   cases x.to[o.tag.toNat]? with
   | none=>rfl
   | some a=>simp only [if_neg hx];rfl
theorem enter_eq {m:VM} (hv:validW m.h.obs m.regs=true) (tg:TG m.h) {x:Instr} (hx:x.op=8):finR (m.enterS x)=m.jumpS x m.code.entries:=by
 unfold VM.jumpS VM.enterS
 cases h:m.obR x.a with
 | none =>
   rw [tagR_none hv h,if_pos (by decide)]
   rfl
 | some o =>
   have h0:=tg o (obAt_mem (obR_some h).2)
   rw [tagR_some h,if_neg (by omega)]
   simp only [Obs]
   cases m.code.entries[o.tag.toNat]? with
   | none=>rfl
   | some a=>simp only [if_pos hx];rfl
def VM.plainS (m:VM) (x:Instr):VM × Int:=if x.op=2 then m.primS x else if x.op=5 then m.zeroS x else if x.op=10 then m.doneS x else m.emitS x
theorem hapA {c:Caller} {l:List AIns} {E:Nat → Option TV} {L:Nat → Option (List AV)} {n:Nat} {v:Nat → Bool} {D:List (Nat × List AV)} {S:Sg} {Q:Fr → Prop} {d sz by_:Nat} {s x:AO} {o':Own} {xs ys r:List AV}
 (h1:evV E s=some (.slice .full sz xs)) (h2:evV E x=some (.slice o' sz ys)) (hlen:(xs.length + ys.length) * by_ ≤ 2 ^ 47) (hr:xs ++ ys=r)
 (k:∀ o1 n1 v1,HL c l ⟨upd E d (some (.val (.slice o1 sz r))),L,n1,v1,D,S⟩ Q):HL c (⟨some d,none,.app sz by_ s x⟩ :: l) ⟨E,L,n,v,D,S⟩ Q:=by
 cases ys with
 | nil =>
   rw [List.append_nil] at hr
   subst hr
   exact hap0 h1 h2 rfl (k .full n v)
 | cons y ys =>
   subst hr
   exact hapF h1 h2 (by simp) (by simpa using hlen) fun v' a b=>k (.tip n) (n + 1) v'
theorem alloc17_u (s:Sg) (m:VM) (x:Instr) (hi:HInv m.h) (hv:validW m.h.obs m.regs=true) (h0:0 ≤ x.n ∧ x.n ≤ 100000) (hf:x.regs.length ≤ 1024):HC p N107_ [.agg m.h.cs,I x.n,words (listR m.regs x.regs)] s (fun r s' =>
 ∃ h' a e,r=[.agg (RH.cs h'),I a,I e] ∧ (if m.fits x.regs.length=true then h'=m.h.push x.n (listR m.regs x.regs) ∧ a=(cellsF m.h.obs).length ∧ e=0 else e=170) ∧ KL [] s s'):=by
 have hll:(listR m.regs x.regs).length=x.regs.length:=List.length_map ..
 refine (alloc17_c s m.h x.n (listR m.regs x.regs) hi h0 (by omega) (validW_list hv _)).mono ?_
 rintro r s' ⟨h,k⟩
 rw [hll] at h
 by_cases hz:((cellsF m.h.obs).length:Int) + 1 + x.regs.length > m.h.size
 ·rw [if_pos hz] at h
  refine ⟨_,_,_,h,?_,k⟩
  rw [if_neg (by rw [VM.fits,Dte];omega)]
 rw [if_neg hz] at h
 refine ⟨_,_,_,h,?_,k⟩
 rw [if_pos (by rw [VM.fits,Dte];omega)]
 exact ⟨rfl,rfl,rfl⟩
theorem fit_pos {m:VM} {k:Nat} (h:m.fits k=true):m.fit1 k=m:=by rw [VM.fit1,if_pos h]
theorem fit_neg {m:VM} {k:Nat} (h:¬ m.fits k=true):m.fit1 k=m.gc:=by rw [VM.fit1,if_neg h]
theorem RI.alloc0 {m:VM} (hi:HInv m.h) (ri:RI m):HInv m.alloc0.h ∧ RI m.alloc0:=by
 unfold VM.alloc0
 split
 ·exact ⟨(collect_inv hi ri.v).1,ri.gc hi⟩
 exact ⟨hi,ri⟩
theorem RI.fit1 {m:VM} (hi:HInv m.h) (ri:RI m) (k:Nat):HInv (m.fit1 k).h ∧ RI (m.fit1 k):=by
 unfold VM.fit1
 split
 ·exact ⟨hi,ri⟩
 exact ⟨(collect_inv hi ri.v).1,ri.gc hi⟩
theorem rload_c (s:Sg) (m:VM) (nw:Int) (hi:HInv m.h) (ri:RI m) (x:Instr) (k:Int) (hx:IOk x k) (h4:x.op=4):HC p N79_ [.agg (m.rcs nw),.agg x.cs] s (fun r s'=>r=[.agg ((finR (m.loadS x)).rcs nw)] ∧ KL [] s s'):=by
 have hn4:=hx.n4 h4
 have hat:=ri.at0
 have hob3:=hx.b
 refine hcf J f79_ J ?_
 simp only [chainOf]
 refine er (hbox (dq2 J) J (lq15 J) (hbox (dq3 J) J (lq7 J) (hal (dq4 J) (qn (kq3 J) (kq3 J) (er (hlda J J (lq15 J) (pq2 J (hcall J J J (object_c _ m nw x.b hi ri.v ri.rl hx.b) ?_))))))))
 rintro _ _ ⟨rfl,rfl⟩
 refine pq3 J (qb ?_)
 rintro (_ | _) h1
 have hob:m.obR x.b=none:=by simpa using h1
 have hfin:finR (m.loadS x)=m.end_ 2:=by rw [loadS_eq,hob];rfl
 refine hal (dq10 J) (hstl J J J J (Nlb J) (lq3 J) (qp J (qn (kq5 J) (kq4 J) (eseq (er (pq3 J (zq6 J (qp J (qn (kq5 J) (kq4 J) (ecT J (er (hlda J J (lq15 J) ?_))))))))))))
 refine hcall J J J (rend_c _ m nw _) ?_
 rotate_left
 obtain ⟨o,ho⟩:=Option.isSome_iff_exists.1 h1
 have hoL:obL (m.obR x.b)=o.fs:=by rw [ho];rfl
 refine hal (dq10 J) (hstl J J J J (Nlb J) (lq3 J) (qp J (qn (kq5 J) (kq4 J) (eseq (er (pq3 J (qg J (qp J (qg J (qp J (qg J (qp J (qg J (qp J (qg J (qp J (qg J (qp J (qb ?_)))))))))))))))))))
 rintro (_ | _) h2
 obtain ⟨w,hw⟩:=get_of_lt (l:=o.fs) (i:=x.n.toNat) (by simp [hoL] at h2;omega)
 have hfin:finR (m.loadS x)=m.put x.a w:=by
  rw [loadS_eq,ho,Obs,hw]
  rfl
 refine qp J (qn (kq5 J) (kq4 J) (ecF J (eskip (sqn (er (hlda J J (lq15 J) (pq6 J ?_)))))))
 refine hia (y:=.agg [B w.ref,I w.n]) rfl rfl hn4.1 (by rw [hoL,Lgm,hw];rfl) rfl ?_
 refine hlda J J (lq2 J) (hcall J J J (with_c _ m nw x.a w ri.rl hx.a hat) ?_)
 rintro _ S1 ⟨rfl,hK⟩
 refine hstl J J J J (Nlb J) (lq15 J) (qn (kq1 J) (kq1 J) (eret (fqr J ?_)))
 first
 | exact ⟨by rw [hfin];rfl,hK⟩
 | exact ⟨by rw [hfin];rfl,KL.refl _ _⟩
 have hfin:finR (m.loadS x)=m.end_ 2:=by
  rw [loadS_eq,ho,Obs,List.getElem?_eq_none (by simp [hoL] at h2;omega)]
  rfl
 refine qp J (qn (kq5 J) (kq4 J) (ecT J (er (hlda J J (lq15 J) (hcall J J J (rend_c _ m nw _) ?_)))))
 rotate_left
 all_goals
  rintro _ _ ⟨rfl,rfl⟩
  refine hstl J J J J (Nlb J) (lq15 J) (qn (kq1 J) (kq1 J) (eret (sqr (fqr J ?_))))
  first
  | exact ⟨by rw [hfin];rfl,hK⟩
  | exact ⟨by rw [hfin];rfl,KL.refl _ _⟩
theorem rjump_c (s:Sg) (m:VM) (nw:Int) (hi:HInv m.h) (ri:RI m) (x:Instr) (k:Int) (hx:IOk x k) (tg:TG m.h) (to:List Int) (ht:to.length ≤ 2 ^ 30):HC p N80_ [.agg (m.rcs nw),.agg x.cs,ints to] s (fun r s'=>r=[.agg ((m.jumpS x to).rcs nw)] ∧ KL [] s s'):=by
 have hat:=ri.at0
 have hll:(listR m.regs x.regs).length=x.regs.length:=List.length_map ..
 have hxl:=hx.rl
 refine hcf J f80_ J ?_
 simp only [chainOf]
 refine er (hbox (dq3 J) J (lq15 J) (hbox (dq4 J) J (lq7 J) (hal (dq5 J) (qn (kq4 J) (kq3 J) (er (hlda J J (lq15 J) (pq2 J (hcall J J J (object_c _ m nw x.a hi ri.v ri.rl hx.a) ?_))))))))
 rintro _ _ ⟨rfl,rfl⟩
 refine pq3 J (qb ?_)
 rintro (_ | _) h1
 have hob:m.obR x.a=none:=by simpa using h1
 have hfin:m.jumpS x to=m.end_ 2:=by rw [VM.jumpS,hob];rfl
 refine hal (dq11 J) (hstl J J J J (Nlb J) (lq3 J) (qp J (qn (kq6 J) (kq4 J) (eseq (er (pq3 J (zq5 J (qp J (qn (kq6 J) (kq4 J) (ecT J (er (hlda J J (lq15 J) (hcall J J J (rend_c _ m nw _) ?_)))))))))))))
 rintro _ _ ⟨rfl,rfl⟩
 refine hstl J J J J (Nlb J) (lq15 J) (qn (kq1 J) (kq1 J) (eret (sqr (fqr J ?_))))
 first
 | exact ⟨by rw [hfin];rfl,hK⟩
 | exact ⟨by rw [hfin];rfl,KL.refl _ _⟩
 obtain ⟨o,ho⟩:=Option.isSome_iff_exists.1 h1
 have hoT:obT (m.obR x.a)=o.tag:=by rw [ho];rfl
 have ho0:=tg o (obAt_mem (obR_some ho).2)
 refine hal (dq11 J) (hstl J J J J (Nlb J) (lq3 J) (qp J (qn (kq6 J) (kq4 J) (eseq (er (pq3 J (qg J (qp J (qg J (qp J (qg J (qp J (qg J (qp J (qg J (qp J (qb ?_)))))))))))))))))
 rintro (_ | _) h2
 obtain ⟨a,hw⟩:=get_of_lt (l:=to) (i:=o.tag.toNat) (by simp [hoT] at h2;omega)
 have hfin0:m.jumpS x to=if x.op=8 then { m with regs:=getR m.regs x.a :: listR m.regs x.regs,at_:=a } else { m with at_:=a }:=by
  rw [VM.jumpS,ho,Obs,hw]
 refine qp J (qn (kq6 J) (kq4 J) (ecF J (eskip (sqn (eseq (er (pq3 J (qb ?_))))))))
 rintro (_ | _) h3
 have hfin:m.jumpS x to={ m with at_:=a }:=by rw [hfin0,if_neg (by simpa using h3)]
 refine qn (kq6 J) (kq4 J) (ecF J (eskip (sqn (er (pq3 J ?_)))))
 rotate_left
 have hfin:m.jumpS x to={ m with regs:=getR m.regs x.a :: listR m.regs x.regs,at_:=a }:=by rw [hfin0,if_pos (by simpa using h3)]
 refine qn (kq6 J) (kq4 J) (ecT J (ereg (pq4 J ?_)))
 refine hia (y:=.agg [B (getR m.regs x.a).ref,I (getR m.regs x.a).n]) rfl rfl hx.a.1 (by rw [Lgm,padR_get ri.rl (by have:=hx.a;omega)];rfl) rfl ?_
 refine hlda J J (lq2 J) (hbsl J J (lq1 J) (hlda J J (lq15 J) (pq2 J (hcall J J J (words_c _ m nw ri.rl x.regs hx.rg (by omega)) ?_))))
 rintro _ _ ⟨rfl,rfl⟩
 refine hapA rfl rfl (by simp [hll];omega) (r:=(getR m.regs x.a :: listR m.regs x.regs).map Word.enc) rfl ?_
 intro o1 n1 v1
 refine hcall rfl rfl rfl (frame_c _ (getR m.regs x.a :: listR m.regs x.regs) (by have:=hx.r8 (by simpa using h3);simp [hll];omega)) ?_
 rintro _ S1 ⟨rfl,hK⟩
 refine qp J (hstl J J J J (Nlb J) (lq15 J) (qn (kq4 J) (kq3 J) (er (pq3 J ?_))))
 rotate_left
 have hfin:m.jumpS x to=m.end_ 2:=by
  rw [VM.jumpS,ho,Obs,List.getElem?_eq_none (by simp [hoT] at h2;omega)]
 refine qp J (qn (kq6 J) (kq4 J) (ecT J (er (hlda J J (lq15 J) (hcall J J J (rend_c _ m nw _) ?_)))))
 rintro _ _ ⟨rfl,rfl⟩
 refine hstl J J J J (Nlb J) (lq15 J) (qn (kq1 J) (kq1 J) (eret (sqr (fqr J ?_))))
 first
 | exact ⟨by rw [hfin];rfl,hK⟩
 | exact ⟨by rw [hfin];rfl,KL.refl _ _⟩
 all_goals
  refine hia (y:=I a) rfl rfl (by rw [hoT];exact ho0) (by rw [hoT,Lgm,hw];rfl) rfl ?_
  refine pq2 J (hstl J J J J (Nlb J) (lq15 J) (qn (kq2 J) (kq2 J) (er (hlda J J (lq15 J) (hstl J J J J (Nlb J) (lq15 J) (qn (kq1 J) (kq1 J) (eret (fqr J ?_))))))))
  first
  | exact ⟨by rw [hfin];rfl,hK⟩
  | exact ⟨by rw [hfin];rfl,KL.refl _ _⟩
end Go.Sim.W
namespace Go.Sim.W
open Go Go.Sim
theorem all1 {m:VM} {a:Int}:([a].all fun r=>!(getR m.regs r).ref)=!(getR m.regs a).ref:=by simp
theorem all2 {m:VM} {a b:Int}:([a,b].all fun r=>!(getR m.regs r).ref)=!((getR m.regs a).ref || (getR m.regs b).ref):=by simp
theorem rplain_c (s:Sg) (m:VM) (nw:Int) (hi:HInv m.h) (ri:RI m) (x:Instr) (k:Int) (hx:IOk x k):HC p N83_ [.agg (m.rcs nw),.agg x.cs] s (fun r s'=>r=[.agg ((finR (m.plainS x)).rcs nw)] ∧ KL [] s s'):=by
 have hat:=ri.at0
 have hol:=ri.ol
 refine hcf J f83_ J ?_
 simp only [chainOf]
 refine er (hbox (dq2 J) J (lq15 J) (hbox (dq3 J) J (lq7 J) (hal (dq4 J) (qn (kq3 J) (kq3 J) (eseq (er (pq2 J (qn (kq4 J) (kq3 J) (eblock (er (qp J (qb ?_))))))))))))
 rintro (_ | _) h1
 refine qp J (qn (kq5 J) (kq3 J) (ecF J (er (qp J (qb ?_)))))
 rintro (_ | _) h2
 refine qp rfl (qn (kq4 rfl) (kq3 rfl) (ecF rfl (eskip (bqn (sqn (eseq (er (hlda rfl rfl (lq15 rfl) (pq2 rfl (hbsl rfl rfl (lq1 rfl) (hcall rfl rfl rfl (intg_c _ m nw ri.rl [x.a] (by intro r hr;simp at hr;subst hr;exact hx.a) (by simp)) ?_)))))))))))
 rintro _ _ ⟨rfl,rfl⟩
 rw [all1]
 refine qb ?_
 rintro (_ | _) h3
 refine qp J (qn (kq4 J) (kq3 J) (ecT J (er (hlda J J (lq15 J) (hcall J J J (rend_c _ m nw _) ?_)))))
 rintro _ _ ⟨rfl,rfl⟩
 refine hstl J J J J (Nlb J) (lq15 J) (qn (kq1 J) (kq1 J) (eret (sqr (fqr J ?_))))
 rotate_left
 refine qp J (qn (kq4 J) (kq3 J) (ecF J (eskip (sqn (er (pq4 J ?_))))))
 refine hia (y:=.agg [B (getR m.regs x.a).ref,I (getR m.regs x.a).n]) rfl rfl hx.a.1 (by rw [Lgm,padR_get ri.rl (by have:=hx.a;omega)];rfl) rfl ?_
 refine pq3 J (qn (kq4 J) (kq3 J) (eseq (er (pq3 J (qb ?_)))))
 rintro (_ | _) h4
 refine qn (kq4 rfl) (kq2 rfl) (ecF rfl (eskip (sqn (er (hbsl rfl rfl (ln rfl) (pq3 rfl (hapK0 rfl rfl (by simp;omega) ?_)))))))
 intro oa na va hva
 refine qp rfl (hbsl rfl rfl (lc rfl (ln rfl)) (hapC rfl rfl hva (by simp) (by simp;omega) (r:=(m.outs ++ [(getR m.regs x.a).n]).map I) (by simp [AV.ers,AV.er,AV.erT,I]) ?_))
 intro v' hv1 hv2
 refine pq2 J (hstl J J J J (Nlb J) (lq15 J) (qn (kq2 J) (kq2 J) (er (pq2 J (hadd J J (i64w (by omega)) (qp J (hstl J J J J (Nlb J) (lq15 J) (qn (kq2 J) (kq2 J) (er (hlda J J (lq15 J) (hstl J J J J (Nlb J) (lq15 J) (qn (kq1 J) (kq1 J) (eret (fqr J ?_))))))))))))))
 rotate_left
 refine qk (kc rfl (kc rfl (kc rfl (kc rfl kn)))) (kc rfl (kc rfl kn)) (sqn (ecT rfl (eseq (ereg (qp rfl (qp rfl (qp rfl (hstl rfl rfl rfl rfl (Nlb rfl) (lc rfl (lc rfl (lc rfl (lc rfl (lc rfl (lc rfl (lc rfl (lc rfl (lc rfl (lc rfl (lc rfl (lc rfl (lc rfl (lc rfl (lc rfl (ln rfl)))))))))))))))) (qk (kc rfl (kc rfl kn)) (kc rfl (kc rfl kn)) (sqn (eseq (ereg (hlda rfl rfl (lc rfl (lc rfl (lc rfl (lc rfl (lc rfl (lc rfl (lc rfl (lc rfl (lc rfl (lc rfl (lc rfl (lc rfl (lc rfl (lc rfl (lc rfl (ln rfl)))))))))))))))) (hcall rfl rfl rfl (rend_c _ { m with val:=(getR m.regs x.a).n } nw _) ?_))))))))))))))
 rintro _ _ ⟨rfl,rfl⟩
 refine hstl J J J J (Nlb J) (lq15 J) (qn (kq1 J) (kq1 J) (eret (sqr (fqr J ?_))))
 rotate_left
 refine qp rfl (qn (kq4 rfl) (kq3 rfl) (ecT rfl (eseq (er (hlda rfl rfl (lq15 rfl) (pq2 rfl (hbsl rfl rfl (lq1 rfl) (hcall rfl rfl rfl (intg_c _ m nw ri.rl [x.a] (by intro r hr;simp at hr;subst hr;exact hx.a) (by simp)) ?_))))))))
 rintro _ _ ⟨rfl,rfl⟩
 rw [all1]
 refine qb ?_
 rintro (_ | _) h5
 refine qp J (qn (kq4 J) (kq3 J) (ecT J (er (hlda J J (lq15 J) (hcall J J J (rend_c _ m nw _) ?_)))))
 rintro _ _ ⟨rfl,rfl⟩
 refine hstl J J J J (Nlb J) (lq15 J) (qn (kq1 J) (kq1 J) (eret (sqr (bqr (sqr (fqr J ?_))))))
 rotate_left
 refine qp J (qn (kq4 J) (kq3 J) (ecF J (eskip (sqn (er (pq2 J (hadd J J (i64w (by omega)) (qp J (hstl J J J J (Nlb J) (lq15 J) (qn (kq3 J) (kq3 J) (eseq (er (pq4 J ?_)))))))))))))
 refine hia (y:=.agg [B (getR m.regs x.a).ref,I (getR m.regs x.a).n]) rfl rfl hx.a.1 (by rw [Lgm,padR_get ri.rl (by have:=hx.a;omega)];rfl) rfl ?_
 refine pq3 J (qb ?_)
 rintro (_ | _) h6
 refine qn (kq4 J) (kq3 J) (ecF J (eskip (sqn (er (hlda J J (lq15 J) (hstl J J J J (Nlb J) (lq15 J) (qn (kq1 J) (kq1 J) (eret (bqr (sqr (fqr J ?_)))))))))))
 rotate_left
 refine qn (kq4 J) (kq3 J) (ecT J (ereg (pq3 J (hstl J J J J (Nlb J) (lq15 J) (qn (kq2 J) (kq2 J) (er (hlda J J (lq15 J) (hstl J J J J (Nlb J) (lq15 J) (qn (kq1 J) (kq1 J) (eret (bqr (sqr (fqr J ?_)))))))))))))
 rotate_left
 refine qp rfl (qn (kq5 rfl) (kq3 rfl) (ecT rfl (eseq (er (hlda rfl rfl (lq15 rfl) (pq4 rfl (hbsl rfl rfl (lq2 rfl) (hcall rfl rfl rfl (intg_c _ m nw ri.rl [x.b,x.c] (by intro r hr;simp at hr;rcases hr with rfl | rfl;exact hx.b;exact hx.c) (by simp)) ?_))))))))
 rintro _ _ ⟨rfl,rfl⟩
 rw [all2]
 refine qb ?_
 rintro (_ | _) h7
 refine qp J (qn (kq4 J) (kq3 J) (ecT J (er (hlda J J (lq15 J) (hcall J J J (rend_c _ m nw _) ?_)))))
 rintro _ _ ⟨rfl,rfl⟩
 refine hstl J J J J (Nlb J) (lq15 J) (qn (kq1 J) (kq1 J) (eret (sqr (bqr (sqr (fqr J ?_))))))
 rotate_left
 refine qp J (qn (kq4 J) (kq3 J) (ecF J (eskip (sqn (er (hlda J J (lq15 J) (pq6 J (pq2 J ?_))))))))
 refine hia (y:=.agg [B (getR m.regs x.b).ref,I (getR m.regs x.b).n]) rfl rfl hx.b.1 (by rw [Lgm,padR_get ri.rl (by have:=hx.b;omega)];rfl) rfl ?_
 refine pq6 J ?_
 refine hia (y:=.agg [B (getR m.regs x.c).ref,I (getR m.regs x.c).n]) rfl rfl hx.c.1 (by rw [Lgm,padR_get ri.rl (by have:=hx.c;omega)];rfl) rfl ?_
 refine pq2 J (hcall J J J (prim_c _ x.n _ _) ?_)
 rintro _ _ ⟨rfl,rfl⟩
 refine hbuild J J (lq2 J) (hcall J J J (with_c _ m nw x.a ⟨false,resS x.n (getR m.regs x.b).n (getR m.regs x.c).n⟩ ri.rl hx.a hat) ?_)
 rintro _ S1 ⟨rfl,hK⟩
 refine hstl J J J J (Nlb J) (lq15 J) (qn (kq1 J) (kq1 J) (eret (bqr (sqr (fqr J ?_)))))
 rotate_left
 all_goals
  first
  | (refine ⟨?_,hK⟩
     have hfin:finR (m.plainS x)=m.put x.a ⟨false,resS x.n (getR m.regs x.b).n (getR m.regs x.c).n⟩:=by cases hb:(getR m.regs x.b).ref <;> cases hc:(getR m.regs x.c).ref <;> simp_all [VM.plainS,VM.primS,VM.zeroS,VM.doneS,VM.emitS,finR]
     rw [hfin]
     rfl)
  | (refine ⟨?_,KL.refl _ _⟩
     have hfin:finR (m.plainS x)=m.end_ 2:=by cases hb:(getR m.regs x.b).ref <;> cases hc:(getR m.regs x.c).ref <;> simp_all [VM.plainS,VM.primS,VM.zeroS,VM.doneS,VM.emitS,finR]
     rw [hfin]
     rfl)
  | (refine ⟨?_,KL.refl _ _⟩
     have hfin:finR (m.plainS x)={ m with at_:=x.n }:=by cases hb:(getR m.regs x.b).ref <;> cases hc:(getR m.regs x.c).ref <;> simp_all [VM.plainS,VM.primS,VM.zeroS,VM.doneS,VM.emitS,finR]
     rw [hfin]
     rfl)
  | (refine ⟨?_,KL.refl _ _⟩
     have hfin:finR (m.plainS x)={ m with at_:=m.at_ + 1 }:=by cases hb:(getR m.regs x.b).ref <;> cases hc:(getR m.regs x.c).ref <;> simp_all [VM.plainS,VM.primS,VM.zeroS,VM.doneS,VM.emitS,finR]
     rw [hfin]
     rfl)
  | (refine ⟨?_,KL.refl _ _⟩
     have hfin:finR (m.plainS x)={ m with val:=(getR m.regs x.a).n }.end_ 0:=by cases hb:(getR m.regs x.b).ref <;> cases hc:(getR m.regs x.c).ref <;> simp_all [VM.plainS,VM.primS,VM.zeroS,VM.doneS,VM.emitS,finR]
     rw [hfin]
     rfl)
  | (refine ⟨?_,KL.refl _ _⟩
     have hfin:finR (m.plainS x)={ m with outs:=m.outs ++ [(getR m.regs x.a).n],at_:=m.at_ + 1 }:=by cases hb:(getR m.regs x.b).ref <;> cases hc:(getR m.regs x.c).ref <;> simp_all [VM.plainS,VM.primS,VM.zeroS,VM.doneS,VM.emitS,finR]
     rw [hfin]
     rfl)
end Go.Sim.W
namespace Go.Sim.W
open Go Go.Sim
theorem alloc0_pos {m:VM} (h1:0 < m.period) (h2:m.news.tmod m.period=0):m.alloc0=m.gc:=by rw [VM.alloc0,if_pos ⟨h1,h2⟩]
theorem alloc0_neg {m:VM} (h:¬ (0 < m.period ∧ m.news.tmod m.period=0)):m.alloc0=m:=by rw [VM.alloc0,if_neg h]
theorem HInv.fits {m:VM} (hi:HInv m.h) (k:Nat):m.fits k=true ↔ endF m.h.obs + (1 + (k:Int)) ≤ m.h.size:=by
 rw [VM.fits,Dte,endF_eq hi.ad]
 omega
theorem ralloc_c (s:Sg) (m:VM) (hi:HInv m.h) (ri:RI m) (x:Instr) (k:Int) (hx:IOk x k) (h3:x.op=3):HC p N78_ [.agg (m.rcs m.news),.agg x.cs] s (fun r s'=>∃ nw,r=[.agg ((finR (m.allocS x)).rcs nw)] ∧ ((m.allocS x).2 ≠ 2 → nw=(m.allocS x).1.news) ∧ KL [] s s'):=by
 have hn3:=hx.n3 h3
 have hxl:=hx.rl
 have hnw:=ri.nw
 have hxm:(x.regs.map I).length=x.regs.length:=List.length_map ..
 obtain ⟨hia,ria⟩:=RI.alloc0 hi ri
 obtain ⟨hib,rib⟩:=RI.fit1 hia ria x.regs.length
 obtain ⟨ne1,ne2,ne3⟩:=alloc_news m x.regs.length
 have hat:=rib.at0
 have hK:KL [] s s:=KL.refl _ _
 refine hcf J f78_ J ?_
 simp only [chainOf]
 refine er (hbox (dq2 J) J (lq15 J) (hbox (dq3 J) J (lq7 J) (hal (dq4 J) (qn (kq3 J) (kq3 J) (er (pq3 J (qn (kq4 J) (kq3 J) (er (qp J (hadd J J (i64w (by omega)) (qp J ?_)))))))))))
 obtain ⟨M,hM⟩:∃ M:VM,M=m:=⟨_,rfl⟩
 have hiM:HInv M.h:=by rw [hM];exact hi
 have riM:RI M:=by rw [hM];exact ri
 refine hstl (cs':=M.rcs (m.news + 1)) rfl rfl rfl rfl (Nlb rfl) (by rw [hM];rfl) (qk (kc rfl (kc rfl (kc rfl (kc rfl kn)))) (kc rfl (kc rfl (kc rfl kn))) (sqn (eseq (eseq (ereg (qp rfl (qp rfl (qp rfl (qb ?_)))))))))
 rintro (_ | _) h1
 refine qp J (zq5 J (qp J (qn (kq4 J) (kq3 J) (ecF J (eskip (sqn (eseq (er ?_))))))))
 have hA:M=m.alloc0:=by
  first
  | exact hA
  | (rw [hM]
     refine (alloc0_neg fun hc=>?_).symm
     first
     | (have h:decide (0 < M.period)=false:=by assumption
        rw [hM] at h
        exact absurd hc.1 (by simpa using h))
     | (have h:decide (m.news.tmod M.period=0)=false:=by assumption
        rw [hM] at h
        exact absurd hc.2 (by simpa using h)))
 have hiM:HInv M.h:=by rw [hA];exact hia
 have riM:RI M:=by rw [hA];exact ria
 have heM:=endF_eq hiM.ad
 have hleM:=hiM.le
 have hszM:=hiM.sz
 refine qp J (hlda J J (lq2 J) (hcall J J J (end_c _ M.h hiM.n40 hiM.ends) ?_))
 rintro _ _ ⟨rfl,rfl⟩
 refine pq3 J (hcall J J J (cells_c _ _ (by omega) (by omega)) ?_)
 rintro _ _ ⟨rfl,rfl⟩
 refine hadd J J (i64w (by omega)) (pq3 J ?_)
 obtain ⟨N,hN⟩:∃ N,N=M:=⟨_,rfl⟩
 refine qp J (qb ?_)
 rintro (_ | _) h2
 refine qn (kq4 J) (kq3 J) (ecF J (eskip (sqn (eseq (ereg_1 (dq4 J) ?_)))))
 have hF:N=M.fit1 x.regs.length:=by
  first
  | exact hF
  | (rw [hN]
     refine (fit_pos ?_).symm
     have h:decide (M.h.size < endF M.h.obs + (1 + ((x.regs.map I).length:Int)))=false:=by assumption
     refine (hiM.fits _).2 ?_
     simp at h
     omega)
 have hG:N=m.alloc0.fit1 x.regs.length:=by rw [hF,hA]
 have hiN:HInv N.h:=by rw [hG];exact hib
 have riN:RI N:=by rw [hG];exact rib
 try (obtain rfl:=hN)
 refine qp J (hlda J J (lq2 J) (pq2 J (hlda J J (lq15 J) (pq2 J (hcall J J J (words_c _ N _ riN.rl x.regs hx.rg (by omega)) ?_)))))
 rintro _ _ ⟨rfl,rfl⟩
 refine hcall J J J (alloc17_u _ N x hiN riN.v hn3 hxl) ?_
 rintro _ S3 ⟨h',a',e',rfl,hc,hK3⟩
 have hK:=hK.trans0 hK3
 refine pq4 J (hal (dc (dq16 J) J) (hstl J J J J (Nlb J) (lq2 J) (pq2 J (qn (kq6 J) (kq4 J) (eseq (er (pq2 J (qb ?_))))))))
 rintro (_ | _) h3
 rotate_left
 refine qn (kq6 J) (kq4 J) (ecT J (er (hlda J J (lq15 J) (hcall J J J (rend_c _ N (m.news + 1) 3) ?_))))
 rintro _ _ ⟨rfl,rfl⟩
 have he:¬ e'=0:=by
  have h:(!decide (e'=0))=true:=by assumption
  simpa using h
 have hnf:¬ N.fits x.regs.length=true:=fun hf=>by
  rw [if_pos hf] at hc
  exact he hc.2.2
 have hal:m.allocS x=(N,2):=by rw [VM.allocS,← hG,if_neg hnf]
 refine hstl J J J J (Nlb J) (lq15 J) (qn (kq1 J) (kq1 J) (eret (sqr (fqr J ?_))))
 first
 | exact ⟨m.news + 1,by rw [hal];rfl,fun _=>by rw [hal];show m.news + 1=N.news + 1;rw [hG,ne1],hK⟩
 | exact ⟨m.news + 1,by rw [hal];rfl,fun hne=>absurd (by rw [hal]) hne,hK⟩
 refine qn (kq4 J) (kq3 J) (ecT J (ereg (hlda J J (lq15 J) (hcall J J J (rgc_c _ M _ hiM riM.v riM.rl) ?_))))
 rintro _ S2 ⟨rfl,hK2⟩
 have hK:=hK.trans0 hK2
 have hgc2:M.fit1 x.regs.length=M.gc:=fit_neg fun hf=>by
  have h:decide (M.h.size < endF M.h.obs + (1 + ((x.regs.map I).length:Int)))=true:=by assumption
  have hf:=(hiM.fits _).1 hf
  simp at h
  omega
 obtain ⟨N,hF⟩:∃ N',N'=M.fit1 x.regs.length:=⟨_,rfl⟩
 refine hstl (cs':=N.rcs (m.news + 1)) rfl rfl rfl rfl (Nlb rfl) (by rw [hF,hgc2];rfl) (qk (kc rfl (kc rfl (kc rfl kn))) (kc rfl (kc rfl (kc rfl kn))) (sqn (eseq (ereg_1 (dc (dc (dc dn rfl) rfl) rfl) ?_))))
 have hF:N=M.fit1 x.regs.length:=by
  first
  | exact hF
  | (rw [hN]
     refine (fit_pos ?_).symm
     have h:decide (M.h.size < endF M.h.obs + (1 + ((x.regs.map I).length:Int)))=false:=by assumption
     refine (hiM.fits _).2 ?_
     simp at h
     omega)
 have hG:N=m.alloc0.fit1 x.regs.length:=by rw [hF,hA]
 have hiN:HInv N.h:=by rw [hG];exact hib
 have riN:RI N:=by rw [hG];exact rib
 try (obtain rfl:=hN)
 refine qp J (hlda J J (lq2 J) (pq2 J (hlda J J (lq15 J) (pq2 J (hcall J J J (words_c _ N _ riN.rl x.regs hx.rg (by omega)) ?_)))))
 rintro _ _ ⟨rfl,rfl⟩
 refine hcall J J J (alloc17_u _ N x hiN riN.v hn3 hxl) ?_
 rintro _ S3 ⟨h',a',e',rfl,hc,hK3⟩
 have hK:=hK.trans0 hK3
 refine pq4 J (hal (dq16 J) (hstl J J J J (Nlb J) (lq2 J) (pq2 J (qn (kq6 J) (kq4 J) (eseq (er (pq2 J (qb ?_))))))))
 rintro (_ | _) h4
 rotate_left
 refine qn (kq6 J) (kq4 J) (ecT J (er (hlda J J (lq15 J) (hcall J J J (rend_c _ N (m.news + 1) 3) ?_))))
 rintro _ _ ⟨rfl,rfl⟩
 have he:¬ e'=0:=by
  have h:(!decide (e'=0))=true:=by assumption
  simpa using h
 have hnf:¬ N.fits x.regs.length=true:=fun hf=>by
  rw [if_pos hf] at hc
  exact he hc.2.2
 have hal:m.allocS x=(N,2):=by rw [VM.allocS,← hG,if_neg hnf]
 refine hstl J J J J (Nlb J) (lq15 J) (qn (kq1 J) (kq1 J) (eret (sqr (fqr J ?_))))
 first
 | exact ⟨m.news + 1,by rw [hal];rfl,fun _=>by rw [hal];show m.news + 1=N.news + 1;rw [hG,ne1],hK⟩
 | exact ⟨m.news + 1,by rw [hal];rfl,fun hne=>absurd (by rw [hal]) hne,hK⟩
 refine qp J (qg J (qp J (qg J (qp J (qg J (qp J (qg J ?_)))))))
 have hpp:0 < M.period:=by
  have h:decide (0 < M.period)=true:=by assumption
  simpa using h
 refine hrem J J (by omega) (qg J (qp J (qb ?_)))
 rintro (_ | _) h5
 refine qp J (qn (kq4 J) (kq3 J) (ecF J (eskip (sqn (eseq (er ?_))))))
 have hA:M=m.alloc0:=by
  first
  | exact hA
  | (rw [hM]
     refine (alloc0_neg fun hc=>?_).symm
     first
     | (have h:decide (0 < M.period)=false:=by assumption
        rw [hM] at h
        exact absurd hc.1 (by simpa using h))
     | (have h:decide (m.news.tmod M.period=0)=false:=by assumption
        rw [hM] at h
        exact absurd hc.2 (by simpa using h)))
 have hiM:HInv M.h:=by rw [hA];exact hia
 have riM:RI M:=by rw [hA];exact ria
 have heM:=endF_eq hiM.ad
 have hleM:=hiM.le
 have hszM:=hiM.sz
 refine qp J (hlda J J (lq2 J) (hcall J J J (end_c _ M.h hiM.n40 hiM.ends) ?_))
 rintro _ _ ⟨rfl,rfl⟩
 refine pq3 J (hcall J J J (cells_c _ _ (by omega) (by omega)) ?_)
 rintro _ _ ⟨rfl,rfl⟩
 refine hadd J J (i64w (by omega)) (pq3 J ?_)
 obtain ⟨N,hN⟩:∃ N,N=M:=⟨_,rfl⟩
 refine qp J (qb ?_)
 rintro (_ | _) h6
 refine qn (kq4 J) (kq3 J) (ecF J (eskip (sqn (eseq (ereg_1 (dq4 J) ?_)))))
 have hF:N=M.fit1 x.regs.length:=by
  first
  | exact hF
  | (rw [hN]
     refine (fit_pos ?_).symm
     have h:decide (M.h.size < endF M.h.obs + (1 + ((x.regs.map I).length:Int)))=false:=by assumption
     refine (hiM.fits _).2 ?_
     simp at h
     omega)
 have hG:N=m.alloc0.fit1 x.regs.length:=by rw [hF,hA]
 have hiN:HInv N.h:=by rw [hG];exact hib
 have riN:RI N:=by rw [hG];exact rib
 try (obtain rfl:=hN)
 refine qp J (hlda J J (lq2 J) (pq2 J (hlda J J (lq15 J) (pq2 J (hcall J J J (words_c _ N _ riN.rl x.regs hx.rg (by omega)) ?_)))))
 rintro _ _ ⟨rfl,rfl⟩
 refine hcall J J J (alloc17_u _ N x hiN riN.v hn3 hxl) ?_
 rintro _ S3 ⟨h',a',e',rfl,hc,hK3⟩
 have hK:=hK.trans0 hK3
 refine pq4 J (hal (dc (dq16 J) J) (hstl J J J J (Nlb J) (lq2 J) (pq2 J (qn (kq6 J) (kq4 J) (eseq (er (pq2 J (qb ?_))))))))
 rintro (_ | _) h7
 rotate_left
 refine qn (kq6 J) (kq4 J) (ecT J (er (hlda J J (lq15 J) (hcall J J J (rend_c _ N (m.news + 1) 3) ?_))))
 rintro _ _ ⟨rfl,rfl⟩
 have he:¬ e'=0:=by
  have h:(!decide (e'=0))=true:=by assumption
  simpa using h
 have hnf:¬ N.fits x.regs.length=true:=fun hf=>by
  rw [if_pos hf] at hc
  exact he hc.2.2
 have hal:m.allocS x=(N,2):=by rw [VM.allocS,← hG,if_neg hnf]
 refine hstl J J J J (Nlb J) (lq15 J) (qn (kq1 J) (kq1 J) (eret (sqr (fqr J ?_))))
 first
 | exact ⟨m.news + 1,by rw [hal];rfl,fun _=>by rw [hal];show m.news + 1=N.news + 1;rw [hG,ne1],hK⟩
 | exact ⟨m.news + 1,by rw [hal];rfl,fun hne=>absurd (by rw [hal]) hne,hK⟩
 refine qn (kq4 J) (kq3 J) (ecT J (ereg (hlda J J (lq15 J) (hcall J J J (rgc_c _ M _ hiM riM.v riM.rl) ?_))))
 rintro _ S2 ⟨rfl,hK2⟩
 have hK:=hK.trans0 hK2
 have hgc2:M.fit1 x.regs.length=M.gc:=fit_neg fun hf=>by
  have h:decide (M.h.size < endF M.h.obs + (1 + ((x.regs.map I).length:Int)))=true:=by assumption
  have hf:=(hiM.fits _).1 hf
  simp at h
  omega
 obtain ⟨N,hF⟩:∃ N',N'=M.fit1 x.regs.length:=⟨_,rfl⟩
 refine hstl (cs':=N.rcs (m.news + 1)) rfl rfl rfl rfl (Nlb rfl) (by rw [hF,hgc2];rfl) (qk (kc rfl (kc rfl (kc rfl kn))) (kc rfl (kc rfl (kc rfl kn))) (sqn (eseq (ereg_1 (dc (dc (dc dn rfl) rfl) rfl) ?_))))
 have hF:N=M.fit1 x.regs.length:=by
  first
  | exact hF
  | (rw [hN]
     refine (fit_pos ?_).symm
     have h:decide (M.h.size < endF M.h.obs + (1 + ((x.regs.map I).length:Int)))=false:=by assumption
     refine (hiM.fits _).2 ?_
     simp at h
     omega)
 have hG:N=m.alloc0.fit1 x.regs.length:=by rw [hF,hA]
 have hiN:HInv N.h:=by rw [hG];exact hib
 have riN:RI N:=by rw [hG];exact rib
 try (obtain rfl:=hN)
 refine qp J (hlda J J (lq2 J) (pq2 J (hlda J J (lq15 J) (pq2 J (hcall J J J (words_c _ N _ riN.rl x.regs hx.rg (by omega)) ?_)))))
 rintro _ _ ⟨rfl,rfl⟩
 refine hcall J J J (alloc17_u _ N x hiN riN.v hn3 hxl) ?_
 rintro _ S3 ⟨h',a',e',rfl,hc,hK3⟩
 have hK:=hK.trans0 hK3
 refine pq4 J (hal (dq16 J) (hstl J J J J (Nlb J) (lq2 J) (pq2 J (qn (kq6 J) (kq4 J) (eseq (er (pq2 J (qb ?_))))))))
 rintro (_ | _) h8
 rotate_left
 refine qn (kq6 J) (kq4 J) (ecT J (er (hlda J J (lq15 J) (hcall J J J (rend_c _ N (m.news + 1) 3) ?_))))
 rintro _ _ ⟨rfl,rfl⟩
 have he:¬ e'=0:=by
  have h:(!decide (e'=0))=true:=by assumption
  simpa using h
 have hnf:¬ N.fits x.regs.length=true:=fun hf=>by
  rw [if_pos hf] at hc
  exact he hc.2.2
 have hal:m.allocS x=(N,2):=by rw [VM.allocS,← hG,if_neg hnf]
 refine hstl J J J J (Nlb J) (lq15 J) (qn (kq1 J) (kq1 J) (eret (sqr (fqr J ?_))))
 first
 | exact ⟨m.news + 1,by rw [hal];rfl,fun _=>by rw [hal];show m.news + 1=N.news + 1;rw [hG,ne1],hK⟩
 | exact ⟨m.news + 1,by rw [hal];rfl,fun hne=>absurd (by rw [hal]) hne,hK⟩
 refine qp J (qn (kq4 J) (kq3 J) (ecT J (ereg (hlda J J (lq15 J) (hcall J J J (rgc_c _ M _ hiM riM.v riM.rl) ?_)))))
 rintro _ S1 ⟨rfl,hK1⟩
 have hK:=hK.trans0 hK1
 have hgc:m.alloc0=M.gc:=by
  have h:decide (m.news.tmod M.period=0)=true:=by assumption
  rw [hM]
  rw [hM] at h hpp
  exact alloc0_pos hpp (by simpa using h)
 obtain ⟨M,hA⟩:∃ M',M'=m.alloc0:=⟨_,rfl⟩
 refine hstl (cs':=M.rcs (m.news + 1)) rfl rfl rfl rfl (Nlb rfl) (by rw [hA,hgc];rfl) (qk (kc rfl (kc rfl (kc rfl kn))) (kc rfl (kc rfl (kc rfl kn))) (sqn (eseq (eseq (ereg ?_)))))
 have hA:M=m.alloc0:=by
  first
  | exact hA
  | (rw [hM]
     refine (alloc0_neg fun hc=>?_).symm
     first
     | (have h:decide (0 < M.period)=false:=by assumption
        rw [hM] at h
        exact absurd hc.1 (by simpa using h))
     | (have h:decide (m.news.tmod M.period=0)=false:=by assumption
        rw [hM] at h
        exact absurd hc.2 (by simpa using h)))
 have hiM:HInv M.h:=by rw [hA];exact hia
 have riM:RI M:=by rw [hA];exact ria
 have heM:=endF_eq hiM.ad
 have hleM:=hiM.le
 have hszM:=hiM.sz
 refine qp J (hlda J J (lq2 J) (hcall J J J (end_c _ M.h hiM.n40 hiM.ends) ?_))
 rintro _ _ ⟨rfl,rfl⟩
 refine pq3 J (hcall J J J (cells_c _ _ (by omega) (by omega)) ?_)
 rintro _ _ ⟨rfl,rfl⟩
 refine hadd J J (i64w (by omega)) (pq3 J ?_)
 obtain ⟨N,hN⟩:∃ N,N=M:=⟨_,rfl⟩
 refine qp J (qb ?_)
 rintro (_ | _) h9
 refine qn (kq4 J) (kq3 J) (ecF J (eskip (sqn (eseq (ereg_1 (dq4 J) ?_)))))
 have hF:N=M.fit1 x.regs.length:=by
  first
  | exact hF
  | (rw [hN]
     refine (fit_pos ?_).symm
     have h:decide (M.h.size < endF M.h.obs + (1 + ((x.regs.map I).length:Int)))=false:=by assumption
     refine (hiM.fits _).2 ?_
     simp at h
     omega)
 have hG:N=m.alloc0.fit1 x.regs.length:=by rw [hF,hA]
 have hiN:HInv N.h:=by rw [hG];exact hib
 have riN:RI N:=by rw [hG];exact rib
 try (obtain rfl:=hN)
 refine qp J (hlda J J (lq2 J) (pq2 J (hlda J J (lq15 J) (pq2 J (hcall J J J (words_c _ N _ riN.rl x.regs hx.rg (by omega)) ?_)))))
 rintro _ _ ⟨rfl,rfl⟩
 refine hcall J J J (alloc17_u _ N x hiN riN.v hn3 hxl) ?_
 rintro _ S3 ⟨h',a',e',rfl,hc,hK3⟩
 have hK:=hK.trans0 hK3
 refine pq4 J (hal (dc (dq16 J) J) (hstl J J J J (Nlb J) (lq2 J) (pq2 J (qn (kq6 J) (kq4 J) (eseq (er (pq2 J (qb ?_))))))))
 rintro (_ | _) h10
 rotate_left
 refine qn (kq6 J) (kq4 J) (ecT J (er (hlda J J (lq15 J) (hcall J J J (rend_c _ N (m.news + 1) 3) ?_))))
 rintro _ _ ⟨rfl,rfl⟩
 have he:¬ e'=0:=by
  have h:(!decide (e'=0))=true:=by assumption
  simpa using h
 have hnf:¬ N.fits x.regs.length=true:=fun hf=>by
  rw [if_pos hf] at hc
  exact he hc.2.2
 have hal:m.allocS x=(N,2):=by rw [VM.allocS,← hG,if_neg hnf]
 refine hstl J J J J (Nlb J) (lq15 J) (qn (kq1 J) (kq1 J) (eret (sqr (fqr J ?_))))
 first
 | exact ⟨m.news + 1,by rw [hal];rfl,fun _=>by rw [hal];show m.news + 1=N.news + 1;rw [hG,ne1],hK⟩
 | exact ⟨m.news + 1,by rw [hal];rfl,fun hne=>absurd (by rw [hal]) hne,hK⟩
 refine qn (kq4 J) (kq3 J) (ecT J (ereg (hlda J J (lq15 J) (hcall J J J (rgc_c _ M _ hiM riM.v riM.rl) ?_))))
 rintro _ S2 ⟨rfl,hK2⟩
 have hK:=hK.trans0 hK2
 have hgc2:M.fit1 x.regs.length=M.gc:=fit_neg fun hf=>by
  have h:decide (M.h.size < endF M.h.obs + (1 + ((x.regs.map I).length:Int)))=true:=by assumption
  have hf:=(hiM.fits _).1 hf
  simp at h
  omega
 obtain ⟨N,hF⟩:∃ N',N'=M.fit1 x.regs.length:=⟨_,rfl⟩
 refine hstl (cs':=N.rcs (m.news + 1)) rfl rfl rfl rfl (Nlb rfl) (by rw [hF,hgc2];rfl) (qk (kc rfl (kc rfl (kc rfl kn))) (kc rfl (kc rfl (kc rfl kn))) (sqn (eseq (ereg_1 (dc (dc (dc dn rfl) rfl) rfl) ?_))))
 have hF:N=M.fit1 x.regs.length:=by
  first
  | exact hF
  | (rw [hN]
     refine (fit_pos ?_).symm
     have h:decide (M.h.size < endF M.h.obs + (1 + ((x.regs.map I).length:Int)))=false:=by assumption
     refine (hiM.fits _).2 ?_
     simp at h
     omega)
 have hG:N=m.alloc0.fit1 x.regs.length:=by rw [hF,hA]
 have hiN:HInv N.h:=by rw [hG];exact hib
 have riN:RI N:=by rw [hG];exact rib
 try (obtain rfl:=hN)
 refine qp J (hlda J J (lq2 J) (pq2 J (hlda J J (lq15 J) (pq2 J (hcall J J J (words_c _ N _ riN.rl x.regs hx.rg (by omega)) ?_)))))
 rintro _ _ ⟨rfl,rfl⟩
 refine hcall J J J (alloc17_u _ N x hiN riN.v hn3 hxl) ?_
 rintro _ S3 ⟨h',a',e',rfl,hc,hK3⟩
 have hK:=hK.trans0 hK3
 refine pq4 J (hal (dq16 J) (hstl J J J J (Nlb J) (lq2 J) (pq2 J (qn (kq6 J) (kq4 J) (eseq (er (pq2 J (qb ?_))))))))
 rintro (_ | _) h11
 rotate_left
 refine qn (kq6 J) (kq4 J) (ecT J (er (hlda J J (lq15 J) (hcall J J J (rend_c _ N (m.news + 1) 3) ?_))))
 rintro _ _ ⟨rfl,rfl⟩
 have he:¬ e'=0:=by
  have h:(!decide (e'=0))=true:=by assumption
  simpa using h
 have hnf:¬ N.fits x.regs.length=true:=fun hf=>by
  rw [if_pos hf] at hc
  exact he hc.2.2
 have hal:m.allocS x=(N,2):=by rw [VM.allocS,← hG,if_neg hnf]
 refine hstl J J J J (Nlb J) (lq15 J) (qn (kq1 J) (kq1 J) (eret (sqr (fqr J ?_))))
 first
 | exact ⟨m.news + 1,by rw [hal];rfl,fun _=>by rw [hal];show m.news + 1=N.news + 1;rw [hG,ne1],hK⟩
 | exact ⟨m.news + 1,by rw [hal];rfl,fun hne=>absurd (by rw [hal]) hne,hK⟩
 all_goals
  refine qn (kq6 J) (kq4 J) (ecF J (eskip (sqn (er (hlda J J (lq2 J) (qp J ?_))))))
  have he:e'=0:=by
   have h:(!decide (e'=0))=false:=by assumption
   simpa using h
  have hf:N.fits x.regs.length=true:=by
   cases hf:N.fits x.regs.length with
   | true=>rfl
   | false =>
     rw [if_neg (by simp [hf])] at hc
     omega
  rw [if_pos hf] at hc
  obtain ⟨rfl,rfl,_⟩:=hc
  have hal:m.allocS x=(N.new x,0):=by rw [VM.allocS,← hG,if_pos hf]
  have hatN:=riN.at0
  refine hstl (cs':=VM.rcs { N with h:=N.h.push x.n (listR N.regs x.regs) } (m.news + 1)) rfl rfl rfl rfl (Nlb rfl) rfl (qk (kc rfl (kc rfl (kc rfl (kc rfl kn)))) (kc rfl (kc rfl (kc rfl kn))) (sqn (eseq (ereg (hlda rfl rfl (lc rfl (lc rfl (lc rfl (lc rfl (lc rfl (lc rfl (lc rfl (lc rfl (lc rfl (lc rfl (lc rfl (lc rfl (lc rfl (lc rfl (lc rfl (ln rfl)))))))))))))))) (qp rfl (qp rfl (qp rfl (hbuild rfl rfl (lc rfl (lc rfl (ln rfl))) (hcall rfl rfl rfl (with_c _ { N with h:=N.h.push x.n (listR N.regs x.regs) } (m.news + 1) x.a ⟨true,(cellsF N.h.obs).length⟩ riN.rl hx.a hatN) ?_))))))))))
  rintro _ S4 ⟨rfl,hK4⟩
  have hK:=hK.trans0 hK4
  refine hstl J J J J (Nlb J) (lq15 J) (qn (kq1 J) (kq1 J) (eret (fqr J ?_)))
  first
  | exact ⟨m.news + 1,by rw [hal];rfl,fun _=>by rw [hal];show m.news + 1=N.news + 1;rw [hG,ne1],hK⟩
  | exact ⟨m.news + 1,by rw [hal];rfl,fun hne=>absurd (by rw [hal]) hne,hK⟩
end Go.Sim.W
namespace Go.Sim.W
open Go Go.Sim
theorem exec_news {m:VM} {x:Instr} (h:x.op ≠ 3):(m.exec x).1.news=m.news:=by
 unfold VM.exec
 split
 ·rfl
 split
 ·rfl
 split
 ·unfold VM.primS;split <;> rfl
 split
 ·rw [loadS_eq];split <;> rfl
 split
 ·unfold VM.zeroS
  split
  ·rfl
  split <;> rfl
 split
 ·unfold VM.chooseS
  split
  ·rfl
  split <;> rfl
 split
 ·rfl
 split
 ·unfold VM.enterS
  split
  ·rfl
  split <;> rfl
 split
 ·unfold VM.emitS;split <;> rfl
 unfold VM.doneS;split <;> rfl
theorem exec_h {m:VM} {x:Instr} (h:x.op ≠ 3):(m.exec x).1.h=m.h:=by
 unfold VM.exec
 split
 ·rfl
 split
 ·rfl
 split
 ·unfold VM.primS;split <;> rfl
 split
 ·rw [loadS_eq];split <;> rfl
 split
 ·unfold VM.zeroS
  split
  ·rfl
  split <;> rfl
 split
 ·unfold VM.chooseS
  split
  ·rfl
  split <;> rfl
 split
 ·rfl
 split
 ·unfold VM.enterS
  split
  ·rfl
  split <;> rfl
 split
 ·unfold VM.emitS;split <;> rfl
 unfold VM.doneS;split <;> rfl
theorem TG.gc {h:RH} (k:HInv h) (t:TG h) (roots:List Word):TG (collectP h roots).1:=by
 obtain ⟨a,_,_⟩:=scan_ok k.v (SI.root k roots) (k:=h.obs.length + 1) (by omega)
 intro o ho
 obtain ⟨q,hq,rfl⟩:=List.mem_map.1 ho
 obtain ⟨o',h1,_,h3⟩:=a.ok q hq
 rw [h3]
 exact t o' (obAt_mem h1)
theorem TG.exec {m:VM} {x:Instr} (hi:HInv m.h) (ri:RI m) (t:TG m.h) (hx:x.op=3 → 0 ≤ x.n):TG (m.exec x).1.h:=by
 by_cases h3:x.op=3
 ·have e:m.exec x=m.allocS x:=by simp only [VM.exec,h3];rfl
  rw [e]
  obtain ⟨ia,ra⟩:=RI.alloc0 hi ri
  have t0:TG m.alloc0.h:=by
   unfold VM.alloc0
   split
   ·exact t.gc hi _
   exact t
  have t1:TG (m.alloc0.fit1 x.regs.length).h:=by
   unfold VM.fit1
   split
   ·exact t0
   exact t0.gc ia _
  unfold VM.allocS
  split
  ·intro o ho
   rcases List.mem_append.1 ho with ho | ho
   ·exact t1 o ho
   rw [List.mem_singleton.1 ho];exact hx h3
  exact t1
 rw [exec_h h3];exact t
theorem fin_h (q:VM × Int):(finR q).h=q.1.h:=by unfold finR VM.end_;(repeat' split) <;> rfl
theorem fin_steps (q:VM × Int):(finR q).steps=q.1.steps:=by unfold finR VM.end_;(repeat' split) <;> rfl
theorem fin_news (q:VM × Int):(finR q).news=q.1.news:=by unfold finR VM.end_;(repeat' split) <;> rfl
theorem step_h (q:VM × Int):(stepR q).1.h=q.1.h:=by unfold stepR VM.end_;(repeat' split) <;> rfl
theorem stepR_eq {q:VM × Int} (ho:q.1.over=false):stepR q=if (finR q).over=true ∧ (finR q).fin ≠ 0 then (finR q,false) else ({ finR q with steps:=(finR q).steps + 1 },true):=by
 unfold stepR finR
 by_cases h1:q.2=1
 ·simp [h1,VM.end_]
 by_cases h2:q.2=2
 ·simp [h2,VM.end_]
 by_cases h3:q.2=3
 ·simp [h3,VM.end_]
 simp [h1,h2,h3,ho]
theorem fin_live {q:VM × Int} (h:(finR q).over=false):q.2 ≠ 2:=by
 intro e
 simp [finR,e,VM.end_] at h
theorem plain_eq {m:VM} {x:Instr} (h:x.op=2 ∨ x.op=5 ∨ x.op=9 ∨ x.op=10):m.exec x=m.plainS x:=by
 rcases h with e | e | e | e <;> simp only [VM.exec,VM.plainS,e] <;> rfl
theorem rexec_c (s:Sg) (m:VM) (hI:MInv m) (tg:TG m.h) (x:Instr) (hx:m.code.ins[m.at_.toNat]?=some x):HC p N49_ [.agg (m.rcs m.news)] s (fun r s'=>∃ nw,r=[.agg ((finR (m.exec x)).rcs nw)] ∧ ((m.exec x).2 ≠ 2 → nw=(m.exec x).1.news) ∧ KL [] s s'):=by
 have hf:=codeF hI.ok
 have hk:=iok (hf.i x (Lmg hx))
 have ri:=hI.ri
 have hat:=ri.at0
 have hat2:=hI.at0
 refine hcf J f49_ J ?_
 simp only [chainOf]
 refine er (hbox (dc dn J) J (lq15 J) (hal (dq2 J) (qn (kq2 J) (kq2 J) (er (pq5 J ?_)))))
 refine hia (y:=.agg x.cs) rfl rfl hat2.1 (by rw [Lgm,hx];rfl) rfl ?_
 refine hlda J J (lq7 J) (hal (dq9 J) (hstl J J J J (Nlb J) (lq7 J) (qn (kq3 J) (kq3 J) (eseq (er (pq2 J (qn (kq4 J) (kq3 J) (eblock (er (qp J (qb ?_)))))))))))
 rintro (_ | _) h1
 refine qp J (qn (kq5 J) (kq3 J) (ecF J (er (qp J (qb ?_)))))
 rintro (_ | _) h2
 refine qp J (qn (kq5 J) (kq3 J) (ecF J (er (qp J (qb ?_)))))
 rintro (_ | _) h3
 refine qp J (qn (kq5 J) (kq3 J) (ecF J (er (qp J (qb ?_)))))
 rintro (_ | _) h4
 refine qp J (qn (kq5 J) (kq3 J) (ecF J (er (qp J (qb ?_)))))
 rintro (_ | _) h5
 refine qp J (qn (kq5 J) (kq3 J) (ecF J (er (qp J (qb ?_)))))
 rintro (_ | _) h6
 refine qp J (qn (kq5 J) (kq3 J) (ecF J (er (qp J (qb ?_)))))
 rintro (_ | _) h7
 have hop:=hk.op
 have e:x.op ≠ 3:=by simpa using h3
 have hex:m.exec x=m.plainS x:=plain_eq (by simp at h1 h2 h3 h4 h5 h6 h7;omega)
 refine qp J (qn (kq4 J) (kq3 J) (ecF J (eskip (bqn (sqn (er (hlda J J (lq15 J) (hlda J J (lq7 J) (hcall J J J (rplain_c _ m m.news hI.hi ri x _ hk) ?_)))))))))
 rintro _ S1 ⟨rfl,hK⟩
 have hfx:finR (m.exec x)=finR (m.plainS x):=by rw [hex]
 refine hstl J J J J (Nlb J) (lq15 J) (qn (kq1 J) (kq1 J) (eret (fqr J ?_)))
 first
 | exact ⟨nw,by rw [hex];rfl,by rw [hex];exact hnw,hK⟩
 | exact ⟨m.news,by rw [hfx];rfl,fun _=>(exec_news (by omega)).symm,hK⟩
 have e:x.op=7:=by simpa using h7
 have hex:m.exec x=({ m with regs:=listR m.regs x.regs,at_:=x.n },0):=by simp only [VM.exec,e];rfl
 refine qp rfl (qk (kc rfl (kc rfl (kc rfl (kc rfl kn)))) (kc rfl (kc rfl (kc rfl kn))) (sqn (ecT rfl (eseq (ereg (hlda rfl rfl (lc rfl (lc rfl (lc rfl (lc rfl (lc rfl (lc rfl (lc rfl (lc rfl (lc rfl (lc rfl (lc rfl (lc rfl (lc rfl (lc rfl (lc rfl (ln rfl)))))))))))))))) (qp rfl (qp rfl (hcall rfl rfl rfl (words_c _ m m.news ri.rl x.regs hk.rg (by have:=hk.rl;omega)) ?_)))))))))
 rintro _ _ ⟨rfl,rfl⟩
 refine hcall rfl rfl rfl (frame_c _ (listR m.regs x.regs) (by rw [listR,List.length_map];exact hk.rl)) ?_
 rintro _ S1 ⟨rfl,hK⟩
 have hfx:finR (m.exec x)={ m with regs:=listR m.regs x.regs,at_:=x.n }:=by rw [hex];rfl
 refine qp J (hstl J J J J (Nlb J) (lq15 J) (qn (kq3 J) (kq3 J) (er (pq3 J (hstl J J J J (Nlb J) (lq15 J) (qn (kq2 J) (kq2 J) (er (hlda J J (lq15 J) (hstl J J J J (Nlb J) (lq15 J) (qn (kq1 J) (kq1 J) (eret (bqr (sqr (fqr J ?_))))))))))))))
 first
 | exact ⟨nw,by rw [hex];rfl,by rw [hex];exact hnw,hK⟩
 | exact ⟨m.news,by rw [hfx];rfl,fun _=>(exec_news (by omega)).symm,hK⟩
 have e:x.op=8:=by simpa using h6
 have hex:m.exec x=m.enterS x:=by simp only [VM.exec,e];rfl
 refine qp rfl (qk (kc rfl (kc rfl (kc rfl (kc rfl (kc rfl kn))))) (kc rfl (kc rfl (kc rfl kn))) (sqn (ecT rfl (eseq (ereg (hlda rfl rfl (lc rfl (lc rfl (lc rfl (lc rfl (lc rfl (lc rfl (lc rfl (lc rfl (lc rfl (lc rfl (lc rfl (lc rfl (lc rfl (lc rfl (lc rfl (ln rfl)))))))))))))))) (hlda rfl rfl (lc rfl (lc rfl (lc rfl (lc rfl (lc rfl (lc rfl (lc rfl (ln rfl)))))))) (qp rfl (qp rfl (qp rfl (hcall rfl rfl rfl (rjump_c _ m m.news hI.hi ri x _ hk tg m.code.entries (by have:=hf.e;omega)) ?_)))))))))))
 rintro _ S1 ⟨rfl,hK⟩
 have hfx:finR (m.exec x)=m.jumpS x m.code.entries:=by rw [hex,enter_eq ri.v tg e]
 rotate_left
 have e:x.op=6:=by simpa using h5
 have hex:m.exec x=m.chooseS x:=by simp only [VM.exec,e];rfl
 refine qp rfl (qk (kc rfl (kc rfl (kc rfl (kc rfl (kc rfl kn))))) (kc rfl (kc rfl (kc rfl kn))) (sqn (ecT rfl (eseq (ereg (hlda rfl rfl (lc rfl (lc rfl (lc rfl (lc rfl (lc rfl (lc rfl (lc rfl (lc rfl (lc rfl (lc rfl (lc rfl (lc rfl (lc rfl (lc rfl (lc rfl (ln rfl)))))))))))))))) (hlda rfl rfl (lc rfl (lc rfl (lc rfl (lc rfl (lc rfl (lc rfl (lc rfl (ln rfl)))))))) (qp rfl (qp rfl (hcall rfl rfl rfl (rjump_c _ m m.news hI.hi ri x _ hk tg x.to (by have:=hk.tl;omega)) ?_))))))))))
 rintro _ S1 ⟨rfl,hK⟩
 have hfx:finR (m.exec x)=m.jumpS x x.to:=by rw [hex,choose_eq ri.v tg (by omega)]
 rotate_left
 have e:x.op=4:=by simpa using h4
 have hex:m.exec x=m.loadS x:=by simp only [VM.exec,e];rfl
 refine qp J (qn (kq5 J) (kq3 J) (ecT J (er (hlda J J (lq15 J) (hlda J J (lq7 J) (hcall J J J (rload_c _ m m.news hI.hi ri x _ hk e) ?_))))))
 rintro _ S1 ⟨rfl,hK⟩
 have hfx:finR (m.exec x)=finR (m.loadS x):=by rw [hex]
 rotate_left
 have e:x.op=3:=by simpa using h3
 have hex:m.exec x=m.allocS x:=by simp only [VM.exec,e];rfl
 refine qp J (qn (kq5 J) (kq3 J) (ecT J (er (hlda J J (lq15 J) (hlda J J (lq7 J) (hcall J J J (ralloc_c _ m hI.hi ri x _ hk e) ?_))))))
 rintro _ S1 ⟨nw,rfl,hnw,hK⟩
 rotate_left
 have e:x.op=1:=by simpa using h2
 have hex:m.exec x=(m.put x.a (getR m.regs x.b),0):=by simp only [VM.exec,e];rfl
 refine qp J (qn (kq5 J) (kq3 J) (ecT J (er (hlda J J (lq15 J) (pq6 J ?_)))))
 refine hia (y:=.agg [B (getR m.regs x.b).ref,I (getR m.regs x.b).n]) rfl rfl hk.b.1 (by rw [Lgm,padR_get ri.rl (by have:=hk.b;omega)];rfl) rfl ?_
 refine hlda J J (lq2 J) (hcall J J J (with_c _ m m.news x.a (getR m.regs x.b) ri.rl hk.a hat) ?_)
 rintro _ S1 ⟨rfl,hK⟩
 have hfx:finR (m.exec x)=m.put x.a (getR m.regs x.b):=by rw [hex];rfl
 rotate_left
 have e:x.op=0:=by simpa using h1
 have hex:m.exec x=(m.put x.a ⟨false,x.n⟩,0):=by simp only [VM.exec,e];rfl
 refine qp J (qn (kq5 J) (kq3 J) (ecT J (er (hlda J J (lq15 J) (pq4 J (hbuild J J (lq2 J) (hcall J J J (with_c _ m m.news x.a ⟨false,x.n⟩ ri.rl hk.a hat) ?_)))))))
 rintro _ S1 ⟨rfl,hK⟩
 have hfx:finR (m.exec x)=m.put x.a ⟨false,x.n⟩:=by rw [hex];rfl
 rotate_left
 all_goals
  refine hstl J J J J (Nlb J) (lq15 J) (qn (kq1 J) (kq1 J) (eret (bqr (sqr (fqr J ?_)))))
  first
  | exact ⟨nw,by rw [hex];rfl,by rw [hex];exact hnw,hK⟩
  | exact ⟨m.news,by rw [hfx];rfl,fun _=>(exec_news (by omega)).symm,hK⟩
theorem rstep_c (s:Sg) (m:VM) (nw:Int) (hI:MInv m) (tg:TG m.h) (hnw:m.over=false → nw=m.news):HC p N26_ [.agg (m.rcs nw)] s (fun r s'=>∃ nw',r=[.agg (m.step.1.rcs nw'),B m.step.2] ∧ (m.step.1.over=false → nw'=m.step.1.news) ∧ TG m.step.1.h ∧ KL [] s s'):=by
 have hst:=hI.st
 obtain ⟨x,hx⟩:=at_some hI
 refine hcf J f26_ J ?_
 simp only [chainOf]
 refine er (hbox (dc dn J) J (lq15 J) (hal (dq2 J) (qp J (qn (kq2 J) (kq2 J) (eseq (er (pq2 J (qb ?_))))))))
 rintro (_ | _) h1
 obtain rfl:=hnw h1
 refine qn (kq3 J) (kq2 J) (ecF J (eskip (sqn (eseq (er (pq6 J (qb ?_)))))))
 rintro (_ | _) h2
 have hne:m.steps ≠ m.fuel:=by simp at h2;omega
 have hs0:=step_go h1 hne hx
 have k:=exec_inv hI hx
 have hq:=k.over.trans h1
 rw [stepR_eq hq] at hs0
 have hfs:=(fin_steps (m.exec x)).trans k.steps
 have hfn:=fin_news (m.exec x)
 refine qn (kq3 J) (kq2 J) (ecF J (eskip (sqn (er (hlda J J (lq15 J) (hcall J J J (rexec_c _ m hI tg x hx) ?_))))))
 rintro _ S1 ⟨nw2,rfl,hnw2,hK⟩
 have tg2:TG (m.exec x).1.h:=tg.exec hI.hi hI.ri (fun h=>((iok ((codeF hI.ok).i x (Lmg hx))).n3 h).1)
 have tg3:TG (finR (m.exec x)).h:=by rw [fin_h];exact tg2
 refine hstl J J J J (Nlb J) (lq15 J) (qn (kq2 J) (kq2 J) (eseq (er (pq2 J (qb ?_)))))
 rintro (_ | _) h3
 refine qp J (zq4 J (qp J (qn (kq3 J) (kq2 J) (ecF J (eskip (sqn (er (pq3 J (hadd J J (i64w (by omega)) (pq2 J (hstl J J J J (Nlb J) (lq15 J) (qn (kq2 J) (kq2 J) (er ?_)))))))))))))
 refine hlda J J (lq15 J) (hstl J J J J (Nlb J) (lq15 J) (qp J (qn (kq2 J) (kq1 J) (eret (fqr J ?_)))))
 rotate_left
 refine qp J (qg J (qp J (qg J (qp J (qg J (qp J (qg J (qp J (qb ?_)))))))))
 rintro (_ | _) h4
 refine qp J (qn (kq3 J) (kq2 J) (ecF J (eskip (sqn (er (pq3 J (hadd J J (i64w (by omega)) (pq2 J (hstl J J J J (Nlb J) (lq15 J) (qn (kq2 J) (kq2 J) (er (hlda J J (lq15 J) (hstl J J J J (Nlb J) (lq15 J) (qp J (qn (kq2 J) (kq1 J) ?_)))))))))))))))
 refine eret (fqr J ?_)
 rotate_left
 refine qp J (qn (kq3 J) (kq2 J) (ecT J (er (hlda J J (lq15 J) (hstl J J J J (Nlb J) (lq15 J) (qp J (qn (kq2 J) (kq1 J) (eret (sqr (fqr J ?_))))))))))
 rotate_left
 have hs:m.step=(m.end_ 1,false):=by rw [VM.step,if_neg (by simp [h1]),if_pos (by simp at h2;omega)]
 refine qn (kq3 J) (kq2 J) (ecT J (er (hlda J J (lq15 J) (hcall J J J (rend_c _ m m.news 1) ?_))))
 rintro _ _ ⟨rfl,rfl⟩
 refine hstl J J J J (Nlb J) (lq15 J) (qp J (qn (kq2 J) (kq1 J) (eret (sqr (fqr J ?_)))))
 rotate_left
 have hs:m.step=(m,false):=by rw [VM.step,if_pos h1]
 refine qn (kq3 J) (kq2 J) (ecT J (er (hlda J J (lq15 J) (hstl J J J J (Nlb J) (lq15 J) (qp J (qn (kq2 J) (kq1 J) (eret (sqr (fqr J ?_)))))))))
 rotate_left
 all_goals
  first
  | exact ⟨nw,by rw [hs];rfl,fun h=>by rw [hs] at h;exact absurd (h1.symm.trans h) (by decide),by rw [hs];exact tg,KL.refl _ _⟩
  | exact ⟨m.news,by rw [hs];rfl,fun h=>by rw [hs] at h;exact absurd (show true=false from h) (by decide),by rw [hs];exact tg,KL.refl _ _⟩
  | (have hs:m.step=(finR (m.exec x),false):=by rw [hs0,if_pos (by simp_all)]
     exact ⟨nw2,by rw [hs];rfl,fun h=>by rw [hs] at h;simp_all,by rw [hs];exact tg3,hK⟩)
  | (have hs:m.step=({ finR (m.exec x) with steps:=(finR (m.exec x)).steps + 1 },true):=by rw [hs0,if_neg (by simp_all)]
     exact ⟨nw2,by rw [hs];rfl,fun h=>by rw [hs] at h ⊢;exact (hnw2 (fin_live h)).trans hfn.symm,by rw [hs];exact tg3,hK⟩)
end Go.Sim.W
namespace Go.Sim.W
open Go Go.Sim
theorem runN_over {m:VM} (h:m.over=true) (k:Nat):runN (k + 1) m=m:=by
 have e:m.step=(m,false):=by rw [VM.step,if_pos h]
 rw [runN,if_neg (by rw [e];exact fun h=>by cases h),e]
theorem step_stop {m:VM} (hI:MInv m) (h:m.step.2=false) (ho:m.over=false):m.step.1.over=true ∧ m.step.1.steps=m.steps ∧ m.step.1.fuel=m.fuel:=by
 by_cases hs:m.steps=m.fuel
 ·rw [VM.step,if_neg (by simp [ho]),if_pos hs]
  exact ⟨rfl,rfl,rfl⟩
 obtain ⟨x,hx⟩:=at_some hI
 have k:=exec_inv hI hx
 rw [step_go ho hs hx] at h ⊢
 unfold stepR at h ⊢
 split
 ·exact ⟨rfl,k.steps,k.fuel⟩
 rename_i e1
 rw [if_neg e1] at h
 split
 ·exact ⟨rfl,k.steps,k.fuel⟩
 rename_i e2
 rw [if_neg e2] at h
 split at h <;> cases h
theorem rrun_l {E0:Nat → Option TV} (s0:Sg) (k:Nat) (m:VM) (nw:Int) (hk:(m.fuel - m.steps).toNat < k) {n:Nat} {v:Nat → Bool} {D:List (Nat × List AV)} {S:Sg} {Q:Ex → Fr → Prop} (hI:MInv m) (tg:TG m.h) (hnw:m.over=false → nw=m.news) (hK:KL [] s0 S)
 (hX:∀ nw' S',KL [] s0 S' → Q (.exit 0) ⟨upd (upd (upd ((fun _=>none)) 5 (some (.val (B false)))) 2 (some (.loc 2 0))) 1 (some (.loc 1 0)),upd (upd ((fun _=>none)) 2 (some ([I 0,.slice .full 7 [],.slice .full 1 [],I 0,I 0,I 0,.slice .full 3 [],.slice .full 2 [],I 0,I 0,I 0,I 0,.slice .full 1 [],I 0,B false]))) 1 (some ((runN k m).rcs nw')),n,v,D,S'⟩):EX (callL p) (.loop F11_l1) ⟨upd (upd (E0) 2 (some (.loc 2 0))) 1 (some (.loc 1 0)),upd (upd ((fun _=>none)) 2 (some ([I 0,.slice .full 7 [],.slice .full 1 [],I 0,I 0,I 0,.slice .full 3 [],.slice .full 2 [],I 0,I 0,I 0,I 0,.slice .full 1 [],I 0,B false]))) 1 (some (m.rcs nw)),n,v,D,S⟩ Q:=by
 refine eloop (eseq (er (pq2 J (qb ?_))))
 rintro (_ | _) h1
 ·refine qp J (qn (kq3 J) (kq2 J) (ecT J (eskip (sqn (eblock (ereg (hlda J J (lq15 J) (hcall J J J (rstep_c _ m nw hI tg hnw) ?_))))))))
  rintro _ S2 ⟨nw2,rfl,hnw2,tg2,hK2⟩
  have h1:m.over=false:=by simpa using h1
  obtain ⟨k,rfl⟩:∃ k',k=k' + 1:=⟨k - 1,by omega⟩
  refine pq3 J (hstl J J J J (Nlb J) (lq15 J) (qk (kq2 J) (kq2 J) (bqn ?_)))
  cases hs:m.step.2 with
  | true =>
    obtain ⟨t1,t2,t3⟩:=step_true hI hs
    have e:runN (k + 1) m=runN k m.step.1:=by rw [runN,if_pos hs]
    rw [e] at hX
    exact rrun_l s0 k m.step.1 nw2 (by omega) (step_inv hI) tg2 hnw2 (hK.trans0 hK2) hX
  | false =>
    obtain ⟨t1,t2,t3⟩:=step_stop hI hs h1
    have hb1:(!m.over).toNat=1:=by rw [h1];rfl
    have hb2:(!m.step.1.over).toNat=0:=by rw [t1];rfl
    have e:runN (k + 1) m=runN (k + 1) m.step.1:=by rw [runN_over t1,runN,if_neg (by simp [hs])]
    exact rrun_l s0 (k + 1) m.step.1 nw2 (by omega) (step_inv hI) tg2 hnw2 (hK.trans0 hK2) (by rw [e] at hX;exact hX)
 refine qp J (qn (kq3 J) (kq2 J) (ecF J (eexit (sqx ?_))))
 obtain ⟨k,rfl⟩:∃ k',k=k' + 1:=⟨k - 1,by omega⟩
 have h:=hX nw _ hK
 rw [runN_over (by simpa using h1)] at h
 exact h
termination_by 2 * k + (!m.over).toNat
decreasing_by all_goals (first | omega | (have:=Bool.toNat_le (!m.step.1.over);omega))
theorem rrun_c (s:Sg) (m:VM) (hI:MInv m) (tg:TG m.h):HC p N11_ [.agg (m.rcs m.news)] s (fun r s'=>∃ nw,r=[.agg ((runM m).rcs nw)] ∧ KL [] s s'):=by
 refine hcf J f11_ J ?_
 simp only [chainOf]
 refine er (hbox (dc dn J) J (lq15 J) (hal (dq2 J) (qn (kq2 J) (kq2 J) (eseq (eblock (rrun_l s _ m m.news (Nat.lt_succ_self _) hI tg (fun _=>J) (KL.refl _ _) ?_))))))
 intro nw S' hK
 refine bqx (sqn (er (hlda J J (lq15 J) (hstl J J J J (Nlb J) (lq15 J) (qn (kq1 J) (kq1 J) (eret (fqr J ?_)))))))
 exact ⟨nw,rfl,hK⟩
def newV (c:Code) (size period fuel:Int) (v:AV):List AV:=[I c.params,SL 7 (c.ins.map Instr.enc),ints c.entries,I period,I fuel,I size,.slice .full 3 [],v,I 0,I 0,I 0,I 0,.slice .full 1 [],I 0,B false]
theorem frz_new {S:Sg} {c:Code} {size period fuel:Int} {v:AV} {ws:List Word} (h:LM v ws S):∃ o mu,frzDL (frzD 1) S (newV c size period fuel v)=some (newV c size period fuel (.slice o 2 (wcs ws)),{ S with mu:=mu }) ∧ ∀ g,g ∉ tk v → mu g=S.mu g:=by
 obtain ⟨o,mu,_,h2,h3⟩:=frz_w h
 refine ⟨o,mu,?_,h3⟩
 have eI:∀ (S:Sg) (x:Int),frzD 1 S (I x)=some (I x,S):=fun _ _=>rfl
 have eB:∀ (S:Sg) (x:Bool),frzD 1 S (B x)=some (B x,S):=fun _ _=>rfl
 have eS:∀ (S:Sg) (o:Own) (n:Nat) (x:List AV),frzD 1 S (.slice o n x)=some (.slice o n x,S):=fun _ _ _ _=>rfl
 simp only [newV,frzDL,eI,eB,eS,ints,SL,h2,Obs]
def mkW (n:Int):Word:=⟨false,n⟩
theorem pad_step {l:List Int} {j:Nat} {a:Int} (ha:l[j]?=some a) (hj:j < 1024):(padR ((l.take j).map mkW) 1024).set j (mkW a)=padR ((l.take (j + 1)).map mkW) 1024:=by
 have hlt:j < l.length:=by
  rcases Nat.lt_or_ge j l.length with h | h
  ·exact h
  rw [List.getElem?_eq_none h] at ha;cases ha
 have hl:((l.take j).map mkW).length=j:=by rw [List.length_map,List.length_take];omega
 unfold padR
 rw [List.take_add_one,ha,Option.toList_some,List.map_append,List.map_cons,List.map_nil,List.length_append,hl,List.set_append_right _ _ (by omega),hl,Nat.sub_self,List.append_assoc]
 congr 1
 rw [show 1024 - j=(1024 - (j + 1)) + 1 from by omega,List.replicate_succ]
 rfl
theorem rnew_l (s0:Sg) (c:Code) (size period fuel:Int) (g:Nat) (l:List Int) (hl:l.length ≤ 1024) (j:Nat) (hj:j ≤ l.length) {n:Nat} {v:Nat → Bool} {D:List (Nat × List AV)} {S:Sg} {Q:Ex → Fr → Prop} (hg:S.mu g=some (flat (wcs (padR ((l.take j).map mkW) 1024)))) (hlt:g < S.mn) (hK:KL [] s0 S) (hge:s0.mn ≤ g)
 (hX:∀ k S',S'.mu g=some (flat (wcs (padR (l.map mkW) 1024))) → g < S'.mn → KL [] s0 S' → Q (.exit 0) ⟨upd (upd (upd (upd (upd (upd ((fun _=>none)) 24 (some (.val (B false)))) 23 (some (.val (I k)))) 22 (some (.val (I (l.map I).length)))) 21 (some (.val (ints l)))) 11 (some (.loc 11 0))) 10 (some (.loc 10 0)),upd (upd ((fun _=>none)) 11 (some (newV c size period fuel (.ms g 0 1024 2)))) 10 (some ([I 0,.slice .full 7 [],.slice .full 1 [],I 0,I 0,I 0,.slice .full 3 [],.slice .full 2 [],I 0,I 0,I 0,I 0,.slice .full 1 [],I 0,B false])),n,v,D,S'⟩):EX (callL p) (.loop F12_l1) ⟨upd (upd (upd (upd (upd ((fun _=>none)) 23 (some (.val (I j)))) 22 (some (.val (I (l.map I).length)))) 21 (some (.val (ints l)))) 11 (some (.loc 11 0))) 10 (some (.loc 10 0)),upd (upd ((fun _=>none)) 11 (some (newV c size period fuel (.ms g 0 1024 2)))) 10 (some ([I 0,.slice .full 7 [],.slice .full 1 [],I 0,I 0,I 0,.slice .full 3 [],.slice .full 2 [],I 0,I 0,I 0,I 0,.slice .full 1 [],I 0,B false])),n,v,D,S⟩ Q:=by
 refine eloop (er (qp J (qb ?_)))
 rintro (_ | _) h1
 ·refine qn (kq6 J) (kq2 J) (eseq (ecF J (eexit (sqx ?_))))
  have he:l.take j=l:=List.take_of_length_le (by simpa using h1)
  rw [he] at hg
  exact hX _ _ hg hlt hK
 refine qn (kq6 J) (kq2 J) (eseq (ecT J (eskip (sqn (eseq (eblock (er (qp J ?_))))))))
 have hjl:j < l.length:=by simpa using h1
 obtain ⟨a,ha⟩:=get_of_lt hjl
 have hpl:(padR ((l.take j).map mkW) 1024).length=1024:=padR_len' (by rw [List.length_map,List.length_take];omega)
 refine hia (y:=I a) rfl rfl (by omega) (by simp [ha]) rfl (qp rfl (qp rfl (qp rfl (qk (kc rfl (kc rfl (kc rfl (kc rfl (kc rfl (kc rfl (kc rfl kn))))))) (kc rfl (kc rfl kn)) (sqn (ereg (qp rfl (qp rfl (qp rfl (qp rfl (hbuild rfl rfl (lc rfl (lc rfl (ln rfl))) (hiam rfl rfl (by omega) (by rw [Int.toNat_natCast];omega) (hstm (y:=.agg [B false,I a]) (cs':=flat (wcs (padR ((l.take (j + 1)).map mkW) 1024))) rfl rfl hg rfl (by rw [flat_len (wcs_sz _),lw,hpl,Int.toNat_natCast];show 0 + j * 2 + 2 ≤ 1024 * 2;omega) (by simp) (by rw [Nat.zero_add,Int.toNat_natCast,← pad_step ha (by omega)];exact set_word (w:=mkW a) (show j < (padR ((l.take j).map mkW) 1024).length from by omega)) (qk (kc rfl (kc rfl (kc rfl (kc rfl (kc rfl kn))))) (kc rfl (kc rfl kn)) (bqn (sqn (ereg (hadd rfl rfl (i64w (by omega)) (qp rfl (qk (kc rfl (kc rfl (kc rfl (kc rfl (kc rfl kn))))) (kc rfl (kc rfl kn)) ?_))))))))))))))))))))
 exact rnew_l s0 c size period fuel g l hl (j + 1) (by omega) (upd_same _ _ _) hlt (⟨⟨hK.e.nx,hK.e.ob,hK.e.gn,hK.e.gl,hK.e.Q⟩,hK.mn,fun g' hg' hx=>(upd_ne _ _ (by omega)).trans (hK.mu g' hg' hx)⟩) hge hX
termination_by l.length - j
decreasing_by all_goals omega
theorem rnew_c (s:Sg) (c:Code) (size period fuel:Int) (inputs:List Int) (hl:inputs.length ≤ 1024):HC p N12_ [.agg c.cs,I size,I period,I fuel,ints inputs] s (fun r s'=>r=[.agg ((newM c size period fuel inputs).rcs 0)] ∧ KL [] s s'):=by
 refine hcf J f12_ J ?_
 simp only [chainOf]
 refine eseq (ereg (hbox (dc (dc (dc (dc (dc dn rfl) rfl) rfl) rfl) rfl) rfl (lc rfl (lc rfl (lc rfl (ln rfl)))) (hal (dc (dc (dc (dc (dc (dc dn rfl) rfl) rfl) rfl) rfl) rfl) (qk (kc rfl (kc rfl (kc rfl (kc rfl (kc rfl (kc rfl kn)))))) (kc rfl (kc rfl kn)) (sqn (eseq (ereg_1 (dc (dc (dc (dc (dc (dc dn rfl) rfl) rfl) rfl) rfl) rfl) (hlda rfl rfl (lc rfl (lc rfl (lc rfl (ln rfl)))) (qp rfl (qp rfl (qp rfl (hbuild rfl rfl (lc rfl (lc rfl (ln rfl))) (hwop rfl (mks_eq (sz:=2) (by_:=16) (n:=1024) (z:=[B false,I 0]) (S:=s) (by decide)) (hbuild rfl rfl (lc rfl (lc rfl (lc rfl (lc rfl (lc rfl (lc rfl (lc rfl (lc rfl (lc rfl (lc rfl (lc rfl (lc rfl (lc rfl (lc rfl (lc rfl (ln rfl)))))))))))))))) (hal (dc (dc (dc (dc (dc (dc (dc (dc (dc (dc (dc (dc (dc dn rfl) rfl) rfl) rfl) rfl) rfl) rfl) rfl) rfl) rfl) rfl) rfl) rfl) (hstl (cs':=newV c size period fuel (.ms s.mn 0 1024 2)) rfl rfl rfl rfl (Nlb rfl) rfl (qk (kc rfl (kc rfl (kc rfl kn))) (kc rfl (kc rfl kn)) (sqn (eseq (eseq (ereg (qp rfl (qp rfl ?_)))))))))))))))))))))))
 refine qp J (qn (kq5 J) (kq2 J) (eblock ?_))
 refine rnew_l s c size period fuel s.mn inputs hl 0 (by omega) (by
  show upd s.mu s.mn _ s.mn=_
  rw [upd_same,zeros_w]
  rfl) (Nat.lt_succ_self _) ⟨⟨Nat.le_refl _,fun _ _=>rfl,Nat.le_refl _,fun _ _=>rfl,rfl⟩,Nat.le_succ _,fun g' hg' hx=>upd_ne _ _ (by omega)⟩ (Nat.le_refl _) ?_
 intro k S' d1 d2 d3
 refine bqx (sqn (er (hlda J J (lq15 J) (hstl J J J J (Nlb J) (lq15 J) (qn (kq1 J) (kq1 J) ?_)))))
 obtain ⟨o2,m2,w1,w2⟩:=frz_new (c:=c) (size:=size) (period:=period) (fuel:=fuel) (S:=S') (v:=.ms s.mn 0 1024 2) (ws:=padR (inputs.map mkW) 1024) (.inr ⟨s.mn,by rw [padR_len' (by rw [List.length_map];exact hl)],d1,d2⟩)
 refine eretz_loc J w1 (fqr J ?_)
 exact ⟨rfl,d3.frz (v:=.ms s.mn 0 1024 2) (fun g hg=>.inr (by rw [List.mem_singleton.1 hg];exact Nat.le_refl _)) w2⟩
end Go.Sim.W
namespace Go.Sim.W
open Go Go.Sim
theorem QOK.kl {s s':Sg} (h:QOK s) (k:KL [] s s'):QOK s':=by
 unfold QOK at h ⊢
 rw [k.e.Q]
 exact h
theorem out_len {c:Code} {size period fuel:Int} {inputs:List Int} (h:chkE c size period fuel inputs=0):(runM (newM c size period fuel inputs)).outs.length ≤ 2 ^ 40:=by
 have:∀ (k:Nat) (m:VM),MInv m → MInv (runN k m):=fun k=>by
  induction k with
  | zero=>exact fun m h=>h
  | succ k ih =>
    intro m h
    unfold runN
    split
    ·exact ih _ (step_inv h)
    exact step_inv h
 have h1:=this ((((newM c size period fuel inputs).fuel - (newM c size period fuel inputs).steps).toNat + 1)) _ (newM_inv h)
 have h2:=h1.ol.1
 have h3:=h1.st
 show (runN _ _).outs.length ≤ _
 omega
theorem chk_len {c:Code} {size period fuel:Int} {inputs:List Int} (h:chkE c size period fuel inputs=0):inputs.length ≤ 1024:=by
 unfold chkE at h
 split at h
 ·rename_i hok
  split at h
  ·rename_i hz
   have:=(codeF hok).p
   omega
  cases h
 cases h
theorem same_refl (a:Run):sameR a a=true:=by simp [sameR]
theorem VmRuns_c (s:Sg) (hQ:QOK s) (c:Code) (z:CodeSz c) (size period fuel:Int) (inputs:List Int) (hs:inputs.length ≤ 2 ^ 30):HC p N3_ [.agg c.cs,I size,I period,I fuel,ints inputs] s (fun r s'=>r=[B true] ∧ KL [] s s'):=by
 refine hcf J f3_ J ?_
 simp only [chainOf]
 refine er (hbox (dq5 J) J (lq3 J) (qp J (qn (kq5 J) (kq1 J) (eseq (er (hlda J J (lq3 J) (pq2 J (hcall J J J (looked_c _ hQ c z fuel inputs) ?_))))))))
 rintro _ _ ⟨rfl,rfl⟩
 refine qb ?_
 rintro (_ | _) h1
 refine qp J (qn (kq6 J) (kq1 J) (ecT J (er (hcall J J J (awake_c _) ?_))))
 rintro _ _ ⟨rfl,kA⟩
 refine qp J (qn (kq1 J) kn (eret (sqr (fqr J ?_))))
 rotate_left
 refine qp J (qn (kq6 J) (kq1 J) (ecF J (eskip (sqn (er (hlda J J (lq3 J) (pq4 J (hcall J J J (run_c _ c z size period fuel inputs hs) ?_))))))))
 rintro _ S1 ⟨rfl,hK1⟩
 refine pq3 J (hal (dq15 J) (hstl J J J J (Nlb J) (lq4 J) (qp J (qn (kq7 J) (kq2 J) (er (hlda J J (lq3 J) (pq4 J (hcall J J J (new_c _ c z size period fuel inputs hs) ?_))))))))
 rintro _ S2 ⟨q,rfl,hK2,q1,q2⟩
 have hK:=hK1.trans0 hK2
 refine pq5 J (qn (kq9 J) (kq2 J) (eseq (er (hlda J J (lq3 J) (pq4 J (hcall J J J (chk_c _ (hQ.kl hK) c z size period fuel inputs hs) ?_))))))
 rintro _ _ ⟨rfl,rfl⟩
 refine qp J (qn (kq10 J) (kq2 J) (er (pq2 J (qb ?_))))
 rintro (_ | _) h2
 have hc:chkE c size period fuel inputs=0:=by simpa using h2
 obtain ⟨im,ih,rfl,_,_⟩:=q1 hc
 have hr:(if chkE c size period fuel inputs=0 then (runM (newM c size period fuel inputs)).out else ⟨0,0,[],0⟩:Run)=(runM (newM c size period fuel inputs)).out:=if_pos hc
 rw [hr,hc]
 refine qn (kq11 J) (kq2 J) (ecF J (eskip (sqn (eseq (er (pq2 J (qb ?_)))))))
 rintro (_ | _) h3
 refine qp J (qg J (qp J (qg J (qp J (qb ?_)))))
 rintro (_ | _) h4
 refine pq2 J (qg J (qp J (qg J (hpeq J J J J J (qb ?_)))))
 rintro (_ | _) h5
 refine qp J (qn (kq7 J) (kq2 J) (ecF J (eskip (sqn (er (hlda J J (lq4 J) (hlda J J (lq3 J) (pq4 J (hcall J J J (rnew_c _ c size period fuel inputs (chk_len hc)) ?_)))))))))
 rintro _ S3 ⟨rfl,hK3⟩
 have hK:=hK.trans0 hK3
 refine hcall J J J (rrun_c _ (newM c size period fuel inputs) (newM_inv hc) (fun o ho=>by cases ho)) ?_
 rintro _ S4 ⟨nw,rfl,hK4⟩
 have hK:=hK.trans0 hK4
 refine hflda J J (lq4 J) (hcall J J J (same18_c _ (runM (newM c size period fuel inputs)).out (runM (newM c size period fuel inputs)).out (out_len hc)) ?_)
 rintro _ _ ⟨rfl,rfl⟩
 rw [same_refl]
 refine qb ?_
 rintro (_ | _) h6
 refine qp J (zq1 J (pq2 J (qn (kq1 J) kn (eret (fqr J ?_)))))
 rotate_left
 refine qp J (qg J (hcall J J J (awake_c _) ?_))
 rintro _ _ ⟨rfl,kA⟩
 refine pq2 J (qn (kq1 J) kn (eret (fqr J ?_)))
 rotate_left
 refine qp J (qn (kq7 J) (kq2 J) (ecT J (er (qp J (qn (kq1 J) kn (eret (sqr (fqr J ?_))))))))
 rotate_left
 refine pq2 J (zq2 J (qp J (qn (kq7 J) (kq2 J) (ecT J (er (qp J (qn (kq1 J) kn (eret (sqr (fqr J ?_))))))))))
 rotate_left
 refine qp J (zq2 J (pq2 J (zq2 J (qp J (qn (kq7 J) (kq2 J) (ecT J (er (qp J (qn (kq1 J) kn (eret (sqr (fqr J ?_))))))))))))
 rotate_left
 have hne:¬ chkE c size period fuel inputs=0:=by simpa using h2
 obtain rfl:=q2 hne
 have hr:(if chkE c size period fuel inputs=0 then (runM (newM c size period fuel inputs)).out else ⟨0,0,[],0⟩:Run)=⟨0,0,[],0⟩:=if_neg hne
 rw [hr]
 refine qn (kq11 J) (kq2 J) (ecT J (er (pq3 J (qb ?_))))
 rintro (_ | _) h7
 refine qp J (zq3 J (pq2 J (zq3 J (pq2 J (zq2 J (pq2 J (zq1 J (pq2 J (qn (kq1 J) kn (eret (sqr (fqr J ?_))))))))))))
 rotate_left
 refine qp J (qg J (hlda J J (lq4 J) (qg J (hbuild J J (lq4 J) (qg J (hcall J J J (same18_c _ ⟨0,0,[],0⟩ ⟨0,0,[],0⟩ (by simp)) ?_))))))
 rintro _ _ ⟨rfl,rfl⟩
 rw [same_refl]
 refine qb ?_
 rintro (_ | _) h8
 refine pq2 J (zq3 J (pq2 J (zq2 J (pq2 J (zq1 J (pq2 J (qn (kq1 J) kn (eret (sqr (fqr J ?_))))))))))
 rotate_left
 refine pq2 J (qg J (qp J (qg J (qp J (qg J (qp J (qb ?_)))))))
 rintro (_ | _) h9
 refine pq2 J (zq2 J (pq2 J (zq1 J (pq2 J (qn (kq1 J) kn (eret (sqr (fqr J ?_))))))))
 rotate_left
 refine pq2 J (qg J (qp J (qg J (hpeq J J J J J (qb ?_)))))
 rintro (_ | _) h10
 refine pq2 J (zq1 J (pq2 J (qn (kq1 J) kn (eret (sqr (fqr J ?_))))))
 rotate_left
 refine pq2 J (qg J (hcall J J J (awake_c _) ?_))
 rintro _ _ ⟨rfl,kA⟩
 refine pq2 J (qn (kq1 J) kn (eret (sqr (fqr J ?_))))
 rotate_left
 all_goals
  first
  | exact ⟨rfl,hK.trans0 kA⟩
  | exact ⟨rfl,kA⟩
  | (exfalso;simp_all;done)
end Go.Sim.W
