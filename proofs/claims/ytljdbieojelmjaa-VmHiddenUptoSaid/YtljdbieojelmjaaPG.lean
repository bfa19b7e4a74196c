/-
  A part of a proof: see the last text of this claim.
-/
import Derived.Test.YtljdbieojelmjaaPF
import Derived.Test.YtljdbieojelmjaaPE
set_option linter.unusedVariables false
set_option linter.unusedSimpArgs false
namespace Go.Sim.W
open Go Go.Sim
theorem ereg_2 {c:Caller} {l:List AIns} {a b:Nat} {k kl:List Nat} {E E1 E2:Nat → Option TV} {L:Nat → Option (List AV)} {n:Nat} {v:Nat → Bool} {D:List (Nat × List AV)} {S:Sg} {Q:Ex → Fr → Prop} (h1:dropL b E=E1) (h2:dropL a E1=E2)
 (h:HL c l ⟨E2,upd (upd L b none) a none,n,v,D,S⟩ (KQ k kl Q)):EX c (.reg l [a,b] k kl) ⟨E,L,n,v,D,S⟩ Q:=by
 subst h1
 subst h2
 exact eregf h
structure IOk (x:Instr) (n:Int):Prop where
 op:0 ≤ x.op ∧ x.op ≤ 10
 a:0 ≤ x.a ∧ x.a ≤ 1023
 b:0 ≤ x.b ∧ x.b ≤ 1023
 c:0 ≤ x.c ∧ x.c ≤ 1023
 rg:∀ r ∈ x.regs,0 ≤ r ∧ r ≤ 1023
 rl:x.regs.length ≤ 1024
 r8:x.op=8 → x.regs.length ≤ 1023
 n3:x.op=3 → 0 ≤ x.n ∧ x.n ≤ 100000
 n4:x.op=4 → 0 ≤ x.n ∧ x.n ≤ 1023
 n57:x.op=5 ∨ x.op=7 → 0 ≤ x.n ∧ x.n < n
 to:∀ r ∈ x.to,0 ≤ r ∧ r < n
 tl:x.to.length ≤ 6
theorem within_iff {a b:Int}:within a b=true ↔ 0 ≤ a ∧ a ≤ b:=by simp [within]
theorem regOk_b {op r:Int} {k:ByteArray} (h:regOk op k r=true):0 ≤ r ∧ r ≤ 1023:=by
 simp only [regOk,Bool.or_eq_true,Bae,Dte] at h
 rcases h with rfl | ⟨_,h⟩
 ·decide
 exact within_iff.1 h
theorem iok {x:Instr} {n:Int} (h:instrOk x n=true):IOk x n:=by
 simp only [instrOk,Bae,Dte] at h
 obtain ⟨⟨⟨⟨⟨⟨⟨⟨h1,h2⟩,h3⟩,h4⟩,h5⟩,_⟩,h7⟩,h8⟩,h9⟩:=h
 have hm:mostR x.op ≤ 1024:=by unfold mostR;split <;> omega
 refine ⟨within_iff.1 h1,regOk_b h3,regOk_b h4,regOk_b h5,fun r hr=>within_iff.1 ((List.all_eq_true.1 h7) r hr),by omega,fun e=>by rw [mostR,if_pos e] at h8;omega,fun e=>?_,fun e=>?_,fun e=>?_,fun r hr=>?_,?_⟩
 ·rw [numOk,if_neg (by omega),if_neg (by omega),if_pos e] at h2
  exact within_iff.1 h2
 ·rw [numOk,if_neg (by omega),if_neg (by omega),if_neg (by omega),if_pos e] at h2
  exact within_iff.1 h2
 ·rw [numOk,if_neg (by omega),if_neg (by omega),if_neg (by omega),if_neg (by omega),if_pos e] at h2
  have:=within_iff.1 h2
  omega
 ·split at h9
  ·rw [Lnl (Odt h9)] at hr
   cases hr
  simp only [Bae] at h9
  have:=within_iff.1 ((List.all_eq_true.1 h9.2) r hr)
  omega
 split at h9
 ·rw [Odt h9]
  exact Nat.zero_le _
 simp only [Bae,Dte] at h9
 exact h9.1.2
def VM.put (m:VM) (r:Int) (w:Word):VM:={ m with regs:=setR m.regs r w,at_:=m.at_ + 1 }
def VM.alloc0 (m:VM):VM:=if 0 < m.period ∧ m.news.tmod m.period=0 then m.gc else m
def VM.fits (m:VM) (k:Nat):Bool:=decide (((cellsF m.h.obs).length:Int) + 1 + k ≤ m.h.size)
def VM.fit1 (m:VM) (k:Nat):VM:=if m.fits k=true then m else m.gc
def VM.new (m:VM) (x:Instr):VM:={ m with h:=m.h.push x.n (listR m.regs x.regs),regs:=setR m.regs x.a ⟨true,(cellsF m.h.obs).length⟩,at_:=m.at_ + 1,news:=m.news + 1 }
def VM.allocS (m:VM) (x:Instr):VM × Int:=if (m.alloc0.fit1 x.regs.length).fits x.regs.length=true then ((m.alloc0.fit1 x.regs.length).new x,0) else (m.alloc0.fit1 x.regs.length,2)
def VM.primS (m:VM) (x:Instr):VM × Int:=if ((getR m.regs x.b).ref || (getR m.regs x.c).ref)=true then (m,1) else (m.put x.a ⟨false,resS x.n (getR m.regs x.b).n (getR m.regs x.c).n⟩,0)
def VM.loadS (m:VM) (x:Instr):VM × Int:=if (getR m.regs x.b).ref=true then (match (obAt m.h.obs (getR m.regs x.b).n).bind fun o=>o.fs[x.n.toNat]? with
 | some w=>(m.put x.a w,0)
 | none=>(m,1)) else (m,1)
def VM.zeroS (m:VM) (x:Instr):VM × Int:=if (getR m.regs x.a).ref=true then (m,1) else if (getR m.regs x.a).n=0 then ({ m with at_:=x.n },0) else ({ m with at_:=m.at_ + 1 },0)
def VM.chooseS (m:VM) (x:Instr):VM × Int:=if tagR m x.a < 0 then (m,1) else match x.to[(tagR m x.a).toNat]? with
 | some a=>({ m with at_:=a },0)
 | none=>(m,1)
def VM.enterS (m:VM) (x:Instr):VM × Int:=if tagR m x.a < 0 then (m,1) else match m.code.entries[(tagR m x.a).toNat]? with
 | some a=>({ m with regs:=getR m.regs x.a :: listR m.regs x.regs,at_:=a },0)
 | none=>(m,1)
def VM.emitS (m:VM) (x:Instr):VM × Int:=if (getR m.regs x.a).ref=true then (m,1) else ({ m with outs:=m.outs ++ [(getR m.regs x.a).n],at_:=m.at_ + 1 },0)
def VM.doneS (m:VM) (x:Instr):VM × Int:=if (getR m.regs x.a).ref=true then (m,1) else ({ m with val:=(getR m.regs x.a).n },3)
theorem hrem {c:Caller} {l:List AIns} {E:Nat → Option TV} {L:Nat → Option (List AV)} {n:Nat} {v:Nat → Bool} {D:List (Nat × List AV)} {S:Sg} {Q:Fr → Prop} {d:Nat} {x y:AO} {a b:Int} (h1:evV E x=some (I a)) (h2:evV E y=some (I b)) (h3:b ≠ 0)
 (k:HL c l ⟨upd E d (some (.val (I (a.tmod b)))),L,n,v,D,S⟩ Q):HL c (⟨some d,none,.bin .rem x y⟩ :: l) ⟨E,L,n,v,D,S⟩ Q :=
 hop (by simp only [ins,run1,aop,h1,h2,Obs,abin,if_true,intOp,if_neg h3];rfl) k
theorem HC.mono {f:Nat} {args:List AV} {s:Sg} {R R':List AV → Sg → Prop} (h:HC p f args s R) (k:∀ r s',R r s' → R' r s'):HC p f args s R':=by
 obtain ⟨r,s',h1,h2⟩:=h
 exact ⟨r,s',h1,k r s' h2⟩
theorem halloc_u (s:Sg) (im ih:Nat) (m:VM) (tag:Int) (u:AV) (fs:List Word) (hM:MS im ih m s) (h0:0 ≤ tag ∧ tag ≤ 100000) (hf:fs.length ≤ 1024) (hv:validW m.h.obs fs=true) (hu:RL 2 u (wcs fs) s) (ho:∀ g ∈ tk u,¬ own [ih] s g) :
 HC p N72_ [.ptr ih 0,I tag,u] s fun r s'=>r=[I (if m.fits fs.length=true then (cellsF m.h.obs).length else 0),I (if m.fits fs.length=true then 0 else 170)] ∧ MS im ih { m with h:=if m.fits fs.length=true then m.h.push tag fs else m.h } s' ∧ KX [im,ih] s s':=by
 refine (halloc_c s ih m.h tag u fs hM.hp h0 hf hv hu ho).mono ?_
 rintro r s' ⟨h,k⟩
 by_cases hz:((cellsF m.h.obs).length:Int) + 1 + fs.length > m.h.size
 ·rw [if_pos hz] at h
  have e:¬ m.fits fs.length=true:=by simp [VM.fits];omega
  rw [if_neg e,if_neg e,if_neg e]
  exact ⟨h.1,hM.hkx h.2 k⟩
 rw [if_neg hz] at h
 have e:m.fits fs.length=true:=by simp [VM.fits];omega
 rw [if_pos e,if_pos e,if_pos e]
 exact ⟨h.1,hM.hkx h.2 k⟩
theorem hfield_u (s:Sg) (i:Nat) (h:RH) (x k:Int) (ob:HOb) (hP:HS i h s) (hx:obAt h.obs x=some ob) (h0:0 ≤ k) :
 HC p N74_ [.ptr i 0,I x,I k] s fun r s'=>r=[.agg [B ((ob.fs[k.toNat]?).getD w0).ref,I ((ob.fs[k.toNat]?).getD w0).n],I (if (ob.fs[k.toNat]?).isSome=true then 0 else 1)] ∧ s'=s:=by
 refine (Hfield_c s i h x k ob hP hx h0).mono ?_
 rintro r s' ⟨h,e⟩
 refine ⟨?_,e⟩
 cases hz:ob.fs[k.toNat]? with
 | none=>rw [hz] at h;exact h
 | some w=>rw [hz] at h;exact h
theorem insert_c {s:Sg} {g n:Nat} {l:List Word} {w:Word} (h:WE 2 (.ms g 0 n 2) (wcs l) s) (hl:l.length ≤ 2 ^ 30):HC p N76_ [.ms g 0 n 2,I 0,.slice .none 2 [.agg [B w.ref,I w.n]]] s fun r s'=>∃ g',r=[.ms g' 0 (l.length + 1) 2] ∧ s.mn ≤ g' ∧ WE 2 (.ms g' 0 (l.length + 1) 2) (wcs (w :: l)) s' ∧ MX [g] s s':=by
 have e:p.ov N76_=some insertOv:=rfl
 rcases h.2 with ⟨_,h⟩ | ⟨g',h,h1,h2⟩
 ·cases h
 simp only [AV.ms.injEq] at h
 obtain ⟨rfl,_,rfl,_⟩:=h
 rw [lw]
 refine callOv e (r:=[.ms s.mn 0 (l.length + 1) 2]) (s':={ s with mu:=upd (upd s.mu g none) s.mn (some ([B w.ref,I w.n] ++ flat (wcs l))),mn:=s.mn + 1 }) ?_ ⟨s.mn,rfl,Nat.le_refl _,⟨by rw [flat_len (wcs_sz _)],.inr ⟨s.mn,by simp [lw],?_,Nat.lt_succ_self _⟩⟩,⟨rfl,rfl,rfl,rfl,rfl,Nat.le_succ _,fun g' hg hx=>?_⟩⟩
 ·simp only [insertOv,I,h1,Obs]
  rw [if_pos ⟨by rw [flat_len (wcs_sz _),lw],rfl,by omega⟩]
  rfl
 ·show upd (upd s.mu g none) s.mn _ s.mn=_
  rw [upd_same]
  rfl
 show upd (upd s.mu g none) s.mn _ g'=_
 rw [upd_ne _ _ (by omega),upd_ne _ _ (by simpa using hx)]
theorem validW_list {obs:List HOb} {l:List Word} (h:validW obs l=true) (rs:List Int):validW obs (listR l rs)=true:=by
 induction rs with
 | nil=>rfl
 | cons r rs ih=>exact validW_cons.2 ⟨fun hr=>getR_has h hr,ih⟩
theorem MX.upX {S S':Sg} (h:MX [] S S') (X:List Nat):MX X S S':=⟨h.ob,h.nx,h.gn,h.gl,h.Q,h.mn,fun g hg _=>h.mu g hg (by simp)⟩
structure RI (m:VM):Prop where
 v:validW m.h.obs m.regs=true
 rl:m.regs.length ≤ 1024
 at0:0 ≤ m.at_ ∧ m.at_ ≤ 2 ^ 40
 nw:0 ≤ m.news ∧ m.news ≤ 2 ^ 40
 ol:m.outs.length ≤ 2 ^ 40
theorem RI.gc {m:VM} (h:RI m) (k:HInv m.h):RI m.gc:=by
 obtain ⟨h1,h2,h3,h4⟩:=collect_inv k h.v
 exact ⟨h2,by show (collectP m.h m.regs).2.length ≤ _;rw [h3];exact h.rl,h.at0,h.nw,h.ol⟩
theorem lit_c (s:Sg) (im ih:Nat) (m:VM) (x:Instr) (n:Int) (hM:MS im ih m s) (hI:RI m) (hx:IOk x n):HC p N42_ [.ptr im 0,.agg x.cs] s (fun r s'=>r=[I (m.put x.a ⟨false,x.n⟩,(0:Int)).2] ∧ MS im ih (m.put x.a ⟨false,x.n⟩,(0:Int)).1 s' ∧ KX [im,ih] s s'):=by
 refine hcf J f42_ J ?_
 simp only [chainOf]
 refine eseq (ereg (hbox (dc (dc dn rfl) rfl) rfl (lc rfl (lc rfl (lc rfl (lc rfl (lc rfl (lc rfl (lc rfl (ln rfl)))))))) (qp rfl (qk (kc rfl (kc rfl kn)) (kc rfl kn) (sqn (eseq (ereg (qp rfl (qp rfl (qp rfl (qp rfl (qp rfl (hbuild rfl rfl (lc rfl (lc rfl (ln rfl))) (hcall rfl rfl rfl (set_c _ im ih m x.a ⟨false,x.n⟩ hM (by have:=hx.a;omega)) ?_))))))))))))))
 rintro _ S1 ⟨rfl,M1,K1⟩
 refine qn (kq1 J) kn (er (pq3 J ?_))
 obtain ⟨vr1,vo1,h1n,_⟩:=M1.row
 have hat:=hI.at0
 refine hldo J h1n J ?_
 refine hadd (r:=m.at_ + 1) rfl rfl (show IntKind.i64.wrap (m.at_ + 1)=m.at_ + 1 from i64w (by omega)) (qp rfl (qp rfl (hsto (cs':=VM.row { { m with regs:=setR m.regs x.a ⟨false,x.n⟩ } with at_:=m.at_ + 1 } ih vr1 vo1) rfl rfl h1n rfl (Nlb rfl) (by simp) rfl ?_)))
 obtain ⟨M2,K2⟩:=MS.set { { m with regs:=setR m.regs x.a ⟨false,x.n⟩ } with at_:=m.at_ + 1 } M1 h1n rfl rfl rfl
 have K2:=KX.trans K1 K2
 refine qn kn kn (er (qp J (qn (kq1 J) kn (eret (fqr J ?_)))))
 exact ⟨rfl,M2,K2⟩
theorem mmove_c (s:Sg) (im ih:Nat) (m:VM) (x:Instr) (n:Int) (hM:MS im ih m s) (hI:RI m) (hx:IOk x n):HC p N43_ [.ptr im 0,.agg x.cs] s (fun r s'=>r=[I (m.put x.a (getR m.regs x.b),(0:Int)).2] ∧ MS im ih (m.put x.a (getR m.regs x.b),(0:Int)).1 s' ∧ KX [im,ih] s s'):=by
 refine hcf J f43_ J ?_
 simp only [chainOf]
 refine er (hbox (dq2 J) J (lq7 J) (qp J (qn (kq2 J) (kq1 J) (er (pq6 J (hcall J J J (get_c _ im ih m x.b hM hx.b.1) ?_))))))
 rintro _ _ ⟨rfl,rfl⟩
 refine hcall rfl rfl rfl (set_c _ im ih m x.a (getR m.regs x.b) hM (by have:=hx.a;omega)) ?_
 rintro _ S1 ⟨rfl,M1,K1⟩
 refine qn (kq1 J) kn (er (pq3 J ?_))
 obtain ⟨vr1,vo1,h1n,_⟩:=M1.row
 have hat:=hI.at0
 refine hldo J h1n J ?_
 refine hadd (r:=m.at_ + 1) rfl rfl (show IntKind.i64.wrap (m.at_ + 1)=m.at_ + 1 from i64w (by omega)) (qp rfl (qp rfl (hsto (cs':=VM.row { { m with regs:=setR m.regs x.a (getR m.regs x.b) } with at_:=m.at_ + 1 } ih vr1 vo1) rfl rfl h1n rfl (Nlb rfl) (by simp) rfl ?_)))
 obtain ⟨M2,K2⟩:=MS.set { { m with regs:=setR m.regs x.a (getR m.regs x.b) } with at_:=m.at_ + 1 } M1 h1n rfl rfl rfl
 have K2:=KX.trans K1 K2
 refine qn kn kn (er (qp J (qn (kq1 J) kn (eret (fqr J ?_)))))
 exact ⟨rfl,M2,K2⟩
theorem mprim_c (s:Sg) (im ih:Nat) (m:VM) (x:Instr) (n:Int) (hM:MS im ih m s) (hI:RI m) (hx:IOk x n):HC p N44_ [.ptr im 0,.agg x.cs] s (fun r s'=>r=[I (m.primS x).2] ∧ MS im ih (m.primS x).1 s' ∧ KX [im,ih] s s'):=by
 refine hcf J f44_ J ?_
 simp only [chainOf]
 refine er (hbox (dq2 J) J (lq7 J) (qp J (qn (kq2 J) (kq1 J) (eseq (ereg_2 (dq2 J) (dq2 J) (pq3 J (hcall J J J (get_c _ im ih m x.b hM hx.b.1) ?_)))))))
 rintro _ _ ⟨rfl,rfl⟩
 refine pq3 J (hcall J J J (get_c _ im ih m x.c hM hx.c.1) ?_)
 rintro _ _ ⟨rfl,rfl⟩
 refine hal (dq10 J) (hal (dq11 J) (hstl J J J J (Nlb J) (lq2 J) (hstl J J J J (Nlb J) (lq2 J) (qn (kq4 J) (kq3 J) (eseq (er (pq2 J (qb ?_))))))))
 rintro (_ | _) h1
 refine qp J (qg J (qp J (qg J (qp J (qb ?_)))))
 rintro (_ | _) h2
 refine qp J (qn (kq5 J) (kq3 J) (ecF J (eskip (sqn (er (pq6 J (pq3 J (hcall J J J (result_c _ _ _ _) ?_))))))))
 rintro _ _ ⟨rfl,rfl⟩
 refine hbuild rfl rfl (lc rfl (lc rfl (ln rfl))) (hcall rfl rfl rfl (set_c _ im ih m x.a ⟨false,resS x.n (getR m.regs x.b).n (getR m.regs x.c).n⟩ hM (by have:=hx.a;omega)) ?_)
 rintro _ S1 ⟨rfl,M1,K1⟩
 refine qn (kq1 J) kn (er (pq3 J ?_))
 obtain ⟨vr1,vo1,h1n,_⟩:=M1.row
 have hat:=hI.at0
 refine hldo J h1n J ?_
 refine hadd (r:=m.at_ + 1) rfl rfl (show IntKind.i64.wrap (m.at_ + 1)=m.at_ + 1 from i64w (by omega)) (qp rfl (qp rfl (hsto (cs':=VM.row { { m with regs:=setR m.regs x.a ⟨false,resS x.n (getR m.regs x.b).n (getR m.regs x.c).n⟩ } with at_:=m.at_ + 1 } ih vr1 vo1) rfl rfl h1n rfl (Nlb rfl) (by simp) rfl ?_)))
 obtain ⟨M2,K2⟩:=MS.set { { m with regs:=setR m.regs x.a ⟨false,resS x.n (getR m.regs x.b).n (getR m.regs x.c).n⟩ } with at_:=m.at_ + 1 } M1 h1n rfl rfl rfl
 have K2:=KX.trans K1 K2
 refine qn kn kn (er (qp J (qn (kq1 J) kn (eret (fqr J ?_)))))
 rotate_left
 refine qp J (qn (kq5 J) (kq3 J) (ecT J (er (qp J (qn (kq1 J) kn (eret (sqr (fqr J ?_))))))))
 rotate_left
 refine qp J (zq2 J (qp J (qn (kq5 J) (kq3 J) (ecT J (er (qp J (qn (kq1 J) kn (eret (sqr (fqr J ?_))))))))))
 rotate_left
 all_goals
  first
  | (rw [VM.primS,if_pos (by simp_all)];exact ⟨rfl,hM,KX.refl _ _⟩)
  | (rw [VM.primS,if_neg (by simp_all)];exact ⟨rfl,M2,K2⟩)
theorem mload_c (s:Sg) (im ih:Nat) (m:VM) (x:Instr) (n:Int) (hM:MS im ih m s) (hI:RI m) (hx:IOk x n) (h4:x.op=4):HC p N46_ [.ptr im 0,.agg x.cs] s (fun r s'=>r=[I (m.loadS x).2] ∧ MS im ih (m.loadS x).1 s' ∧ KX [im,ih] s s'):=by
 obtain ⟨vr,vo,h1m,h2m,h3m,h4m,h5m⟩:=hM.row
 refine hcf J f46_ J ?_
 simp only [chainOf]
 refine er (hbox (dq2 J) J (lq7 J) (qp J (qn (kq2 J) (kq1 J) (er (pq3 J (hcall J J J (get_c _ im ih m x.b hM hx.b.1) ?_))))))
 rintro _ _ ⟨rfl,rfl⟩
 refine hal (dq6 J) (hstl J J J J (Nlb J) (lq2 J) (qn (kq3 J) (kq2 J) (eseq (er (pq2 J (qb ?_))))))
 rintro (_ | _) h1
 refine qp J (qn (kq4 J) (kq2 J) (ecT J (er (qp J (qn (kq1 J) kn (eret (sqr (fqr J ?_))))))))
 rotate_left
 refine qp J (qn (kq4 J) (kq2 J) (ecF J (eskip (sqn (eseq (ereg_1 (dq4 J) (pq3 J ?_)))))))
 have hr:(getR m.regs x.b).ref=true:=by simpa using h1
 obtain ⟨ob,hob⟩:=Option.isSome_iff_exists.1 (getR_has hI.v hr)
 refine hldo J h1m J ?_
 refine pq4 J (hcall J J J (hfield_u _ ih m.h _ x.n ob hM.hp hob (hx.n4 h4).1) ?_)
 rintro _ _ ⟨rfl,rfl⟩
 refine pq3 J (hal (dq16 J) (hstl J J J J (Nlb J) (lq2 J) (qp J (qn (kq4 J) (kq2 J) (eseq (er (pq2 J (qb ?_))))))))
 rintro (_ | _) h2
 refine qk (kc rfl (kc rfl (kc rfl (kc rfl kn)))) (kc rfl (kc rfl kn)) (sqn (ecF rfl (eskip (sqn (eseq (ereg (qp rfl (qp rfl (qp rfl (hlda rfl rfl (lc rfl (lc rfl (ln rfl))) (hcall rfl rfl rfl (set_c _ im ih m x.a (((ob.fs[x.n.toNat]?).getD w0)) hM (by have:=hx.a;omega)) ?_)))))))))))
 rintro _ S1 ⟨rfl,M1,K1⟩
 refine qn (kq1 J) kn (er (pq3 J ?_))
 obtain ⟨vr1,vo1,h1n,_⟩:=M1.row
 have hat:=hI.at0
 refine hldo J h1n J ?_
 refine hadd (r:=m.at_ + 1) rfl rfl (show IntKind.i64.wrap (m.at_ + 1)=m.at_ + 1 from i64w (by omega)) (qp rfl (qp rfl (hsto (cs':=VM.row { { m with regs:=setR m.regs x.a (((ob.fs[x.n.toNat]?).getD w0)) } with at_:=m.at_ + 1 } ih vr1 vo1) rfl rfl h1n rfl (Nlb rfl) (by simp) rfl ?_)))
 obtain ⟨M2,K2⟩:=MS.set { { m with regs:=setR m.regs x.a (((ob.fs[x.n.toNat]?).getD w0)) } with at_:=m.at_ + 1 } M1 h1n rfl rfl rfl
 have K2:=KX.trans K1 K2
 refine qn kn kn (er (qp J (qn (kq1 J) kn (eret (fqr J ?_)))))
 rotate_left
 refine qn (kq4 J) (kq2 J) (ecT J (er (qp J (qn (kq1 J) kn (eret (sqr (fqr J ?_)))))))
 rotate_left
 all_goals
  first
  | (have hr:¬ (getR m.regs x.b).ref=true:=by simpa using h1
     rw [VM.loadS,if_neg hr]
     exact ⟨rfl,hM,KX.refl _ _⟩)
  | (have e:ob.fs[x.n.toNat]?=none:=by
      cases hz:ob.fs[x.n.toNat]? with
      | none=>rfl
      | some w=>simp [hz] at h2
     rw [VM.loadS,if_pos hr,hob,Obs,e]
     exact ⟨rfl,hM,KX.refl _ _⟩)
  | (obtain ⟨w,e⟩:∃ w,ob.fs[x.n.toNat]?=some w:=by
      cases hz:ob.fs[x.n.toNat]? with
      | none=>simp [hz] at h2
      | some w=>exact ⟨w,rfl⟩
     rw [VM.loadS,if_pos hr,hob,Obs,e]
     rw [e] at M2 K2
     exact ⟨rfl,M2,K2⟩)
theorem mzero_c (s:Sg) (im ih:Nat) (m:VM) (x:Instr) (n:Int) (hM:MS im ih m s) (hI:RI m) (hx:IOk x n) (h5:x.op=5):HC p N47_ [.ptr im 0,.agg x.cs] s (fun r s'=>r=[I (m.zeroS x).2] ∧ MS im ih (m.zeroS x).1 s' ∧ KX [im,ih] s s'):=by
 refine hcf J f47_ J ?_
 simp only [chainOf]
 refine er (hbox (dq2 J) J (lq7 J) (qp J (qn (kq2 J) (kq1 J) (er (pq3 J (hcall J J J (get_c _ im ih m x.a hM hx.a.1) ?_))))))
 rintro _ _ ⟨rfl,rfl⟩
 refine hal (dq6 J) (hstl J J J J (Nlb J) (lq2 J) (qn (kq3 J) (kq2 J) (eseq (eblock (er (pq2 J (qb ?_)))))))
 rintro (_ | _) h1
 refine qp J (qn (kq4 J) (kq2 J) (ecF J (er (pq3 J (qb ?_)))))
 rintro (_ | _) h2
 refine qp J (qn (kq3 J) (kq1 J) (ecF J (ereg (pq3 J ?_))))
 obtain ⟨vr1,vo1,h1n,_⟩:=hM.row
 have hat:=hI.at0
 refine hldo J h1n J ?_
 refine hadd (r:=m.at_ + 1) rfl rfl (show IntKind.i64.wrap (m.at_ + 1)=m.at_ + 1 from i64w (by omega)) (qp rfl (qp rfl (hsto (cs':=VM.row { m with at_:=m.at_ + 1 } ih vr1 vo1) rfl rfl h1n rfl (Nlb rfl) (by simp) rfl ?_)))
 obtain ⟨M2,K2⟩:=MS.set { m with at_:=m.at_ + 1 } hM h1n rfl rfl rfl
 have K2:=KX.trans (KX.refl _ _) K2
 refine qk kn kn (bqn (sqn (er (qp J (qn (kq1 J) kn (eret (fqr J ?_)))))))
 rotate_left
 refine qp J (qn (kq3 J) (kq1 J) (ecT J (ereg (pq5 J ?_))))
 obtain ⟨vr1,vo1,h1n,_⟩:=hM.row
 refine hsto (cs':=VM.row { m with at_:=x.n } ih vr1 vo1) rfl rfl h1n rfl (Nlb rfl) (by simp) rfl ?_
 obtain ⟨M2,K2⟩:=MS.set { m with at_:=x.n } hM h1n rfl rfl rfl
 have K2:=KX.trans (KX.refl _ _) K2
 refine qk kn kn (bqn (sqn (er (qp J (qn (kq1 J) kn (eret (fqr J ?_)))))))
 rotate_left
 refine qp J (qn (kq4 J) (kq2 J) (ecT J (er (qp J (qn (kq1 J) kn (eret (bqr (sqr (fqr J ?_)))))))))
 rotate_left
 all_goals
  first
  | (rw [VM.zeroS,if_pos (by simpa using h1)]
     exact ⟨rfl,hM,KX.refl _ _⟩)
  | (rw [VM.zeroS,if_neg (by simpa using h1),if_pos (by simpa using h2)]
     exact ⟨rfl,M2,K2⟩)
  | (rw [VM.zeroS,if_neg (by simpa using h1),if_neg (by simpa using h2)]
     exact ⟨rfl,M2,K2⟩)
theorem mdone_c (s:Sg) (im ih:Nat) (m:VM) (x:Instr) (n:Int) (hM:MS im ih m s) (hI:RI m) (hx:IOk x n):HC p N52_ [.ptr im 0,.agg x.cs] s (fun r s'=>r=[I (m.doneS x).2] ∧ MS im ih (m.doneS x).1 s' ∧ KX [im,ih] s s'):=by
 refine hcf J f52_ J ?_
 simp only [chainOf]
 refine er (hbox (dq2 J) J (lq7 J) (qp J (qn (kq2 J) (kq1 J) (er (pq3 J (hcall J J J (get_c _ im ih m x.a hM hx.a.1) ?_))))))
 rintro _ _ ⟨rfl,rfl⟩
 refine hal (dq6 J) (hstl J J J J (Nlb J) (lq2 J) (qn (kq2 J) (kq1 J) (eseq (er (pq2 J (qb ?_))))))
 rintro (_ | _) h1
 ·refine qn (kq3 J) (kq1 J) (ecF J (eskip (sqn (er (pq6 J ?_)))))
  obtain ⟨vr1,vo1,h1n,_⟩:=hM.row
  refine hsto (cs':=VM.row { m with val:=(getR m.regs x.a).n } ih vr1 vo1) rfl rfl h1n rfl (Nlb rfl) (by simp) rfl ?_
  obtain ⟨M2,K2⟩:=MS.set { m with val:=(getR m.regs x.a).n } hM h1n rfl rfl rfl
  have K2:=KX.trans (KX.refl _ _) K2
  refine qn kn kn (er (qp J (qn (kq1 J) kn (eret (fqr J ?_)))))
  first
  | (rw [VM.doneS,if_pos (by simpa using h1)]
     exact ⟨rfl,hM,KX.refl _ _⟩)
  | (rw [VM.doneS,if_neg (by simpa using h1)]
     exact ⟨rfl,M2,K2⟩)
 refine qn (kq3 J) (kq1 J) (ecT J (er (qp J (qn (kq1 J) kn (eret (sqr (fqr J ?_)))))))
 first
 | (rw [VM.doneS,if_pos (by simpa using h1)]
    exact ⟨rfl,hM,KX.refl _ _⟩)
 | (rw [VM.doneS,if_neg (by simpa using h1)]
    exact ⟨rfl,M2,K2⟩)
theorem memit_c (s:Sg) (im ih:Nat) (m:VM) (x:Instr) (n:Int) (hM:MS im ih m s) (hI:RI m) (hx:IOk x n):HC p N51_ [.ptr im 0,.agg x.cs] s (fun r s'=>r=[I (m.emitS x).2] ∧ MS im ih (m.emitS x).1 s' ∧ KX [im,ih] s s'):=by
 obtain ⟨vr,vo,h1m,h2m,h3m,h4m,h5m⟩:=hM.row
 refine hcf J f51_ J ?_
 simp only [chainOf]
 refine er (hbox (dq2 J) J (lq7 J) (qp J (qn (kq2 J) (kq1 J) (er (pq3 J (hcall J J J (get_c _ im ih m x.a hM hx.a.1) ?_))))))
 rintro _ _ ⟨rfl,rfl⟩
 refine hal (dq6 J) (hstl J J J J (Nlb J) (lq2 J) (qn (kq2 J) (kq1 J) (eseq (er (pq2 J (qb ?_))))))
 rintro (_ | _) h1
 ·refine qn (kq3 J) (kq1 J) (ecF J (eskip (sqn (er (pq5 J (hldo J h1m J ?_))))))
  refine pq2 J (hbsl J J (lq1 J) ?_)
  obtain ⟨v1,S1,w1,w2,w3,w4⟩:=appm_e (by_:=8) h3m (RL.one (sz:=1) (y:=I (getR m.regs x.a).n) (o:=.full) rfl) (by have:=hI.ol;simp;omega)
  rw [show m.outs.map I ++ [I (getR m.regs x.a).n]=(m.outs ++ [(getR m.regs x.a).n]).map I from by simp] at w2
  refine hwop rfl w1 (qp rfl (qp rfl (qp rfl (hst3 (cs':=VM.row { m with outs:=m.outs ++ [(getR m.regs x.a).n] } ih vr v1) rfl rfl ((congrFun w3.ob im).trans h1m) w2.c1 w2.erT w2.tip (by simp [VM.row]) (by rw [w2.c1];rfl) ?_))))
  obtain ⟨M1,K1⟩:=hM.setO h1m w2 w3 w4
  refine qn (kq1 J) kn (er (pq3 J ?_))
  obtain ⟨vr1,vo1,h1n,_⟩:=M1.row
  have hat:=hI.at0
  refine hldo J h1n J ?_
  refine hadd (r:=m.at_ + 1) rfl rfl (show IntKind.i64.wrap (m.at_ + 1)=m.at_ + 1 from i64w (by omega)) (qp rfl (qp rfl (hsto (cs':=VM.row { { m with outs:=m.outs ++ [(getR m.regs x.a).n] } with at_:=m.at_ + 1 } ih vr1 vo1) rfl rfl h1n rfl (Nlb rfl) (by simp) rfl ?_)))
  obtain ⟨M2,K2⟩:=MS.set { { m with outs:=m.outs ++ [(getR m.regs x.a).n] } with at_:=m.at_ + 1 } M1 h1n rfl rfl rfl
  have K2:=KX.trans K1 K2
  refine qn kn kn (er (qp J (qn (kq1 J) kn (eret (fqr J ?_)))))
  first
  | (rw [VM.emitS,if_pos (by simpa using h1)]
     exact ⟨rfl,hM,KX.refl _ _⟩)
  | (rw [VM.emitS,if_neg (by simpa using h1)]
     exact ⟨rfl,M2,K2⟩)
 refine qn (kq3 J) (kq1 J) (ecT J (er (qp J (qn (kq1 J) kn (eret (sqr (fqr J ?_)))))))
 first
 | (rw [VM.emitS,if_pos (by simpa using h1)]
    exact ⟨rfl,hM,KX.refl _ _⟩)
 | (rw [VM.emitS,if_neg (by simpa using h1)]
    exact ⟨rfl,M2,K2⟩)
theorem mjump_c (s:Sg) (im ih:Nat) (m:VM) (x:Instr) (n:Int) (hM:MS im ih m s) (hI:RI m) (hx:IOk x n) (h7:x.op=7):HC p N49_ [.ptr im 0,.agg x.cs] s (fun r s'=>r=[I ({ m with regs:=listR m.regs x.regs,at_:=x.n },(0:Int)).2] ∧ MS im ih ({ m with regs:=listR m.regs x.regs,at_:=x.n },(0:Int)).1 s' ∧ KX [im,ih] s s'):=by
 obtain ⟨vr,vo,h1m,h2m,h3m,h4m,h5m⟩:=hM.row
 refine hcf J f49_ J ?_
 simp only [chainOf]
 refine eseq (ereg (hbox (dc (dc dn rfl) rfl) rfl (lc rfl (lc rfl (lc rfl (lc rfl (lc rfl (lc rfl (lc rfl (ln rfl)))))))) (qp rfl (qk (kc rfl (kc rfl kn)) (kc rfl kn) (sqn (eseq (ereg (qp rfl (qp rfl (qp rfl (qp rfl (hcall rfl rfl rfl (list_c _ im ih m x.regs hM (fun r hr=>(hx.rg r hr).1) (by have:=hx.rl;omega)) ?_))))))))))))
 rintro _ S1 ⟨_,g1,n1,rfl,rfl,l3,l4,l5⟩
 refine qp rfl (qp rfl (hst3 (cs':=VM.row { m with regs:=listR m.regs x.regs } ih (.ms g1 0 n1 2) vo) rfl rfl ((congrFun l5.ob im).trans h1m) rfl rfl (by simp) (by simp [VM.row]) rfl ?_))
 obtain ⟨M1,K1⟩:=hM.setR (l:=listR m.regs x.regs) h1m l4 (l5.upX _) (fun g hg=>.inr (by rw [List.mem_singleton.1 hg];exact l3))
 refine qn (kq2 J) (kq1 J) (er (pq5 J ?_))
 obtain ⟨vr1,vo1,h1n,_⟩:=M1.row
 refine hsto (cs':=VM.row { { m with regs:=listR m.regs x.regs } with at_:=x.n } ih vr1 vo1) rfl rfl h1n rfl (Nlb rfl) (by simp) rfl ?_
 obtain ⟨M2,K2⟩:=MS.set { { m with regs:=listR m.regs x.regs } with at_:=x.n } M1 h1n rfl rfl rfl
 have K2:=KX.trans K1 K2
 refine qn kn kn (er (qp J (qn (kq1 J) kn (eret (fqr J ?_)))))
 exact ⟨rfl,M2,K2⟩
theorem mchoose_c (s:Sg) (im ih:Nat) (m:VM) (x:Instr) (n:Int) (hM:MS im ih m s) (hI:RI m) (hx:IOk x n) (h6:x.to.length ≤ 2 ^ 40):HC p N48_ [.ptr im 0,.agg x.cs] s (fun r s'=>r=[I (m.chooseS x).2] ∧ MS im ih (m.chooseS x).1 s' ∧ KX [im,ih] s s'):=by
 refine hcf J f48_ J ?_
 simp only [chainOf]
 refine er (hbox (dq2 J) J (lq7 J) (qp J (qn (kq2 J) (kq1 J) (er (pq3 J (hcall J J J (mtag_c _ im ih m x.a hM hx.a.1 hI.v) ?_))))))
 rintro _ _ ⟨rfl,rfl⟩
 refine qp J (qn (kq3 J) (kq1 J) (eseq (er (pq2 J (qb ?_)))))
 rintro (_ | _) h1
 refine qp J (qg J (qp J (qg J (qp J (qg J (qp J (qg J (qp J (qg J (qp J (qb ?_)))))))))))
 rintro (_ | _) h2
 refine qp J (qn (kq4 J) (kq1 J) (ecF J (eskip (sqn (er (pq4 J ?_))))))
 have h0:0 ≤ tagR m x.a:=by simpa using h1
 obtain ⟨y,hy⟩:=get_of_lt (l:=x.to) (i:=(tagR m x.a).toNat) (by simp at h2;omega)
 refine hia (y:=I y) rfl rfl h0 (by rw [Lgm,hy];rfl) rfl ?_
 refine pq3 J ?_
 obtain ⟨vr1,vo1,h1n,_⟩:=hM.row
 refine hsto (cs':=VM.row { m with at_:=y } ih vr1 vo1) rfl rfl h1n rfl (Nlb rfl) (by simp) rfl ?_
 obtain ⟨M2,K2⟩:=MS.set { m with at_:=y } hM h1n rfl rfl rfl
 have K2:=KX.trans (KX.refl _ _) K2
 refine qn kn kn (er (qp J (qn (kq1 J) kn (eret (fqr J ?_)))))
 rotate_left
 refine qp J (qn (kq4 J) (kq1 J) (ecT J (er (qp J (qn (kq1 J) kn (eret (sqr (fqr J ?_))))))))
 rotate_left
 refine qp J (zq5 J (qp J (qn (kq4 J) (kq1 J) (ecT J (er (qp J (qn (kq1 J) kn (eret (sqr (fqr J ?_))))))))))
 rotate_left
 all_goals
  first
  | (rw [VM.chooseS,if_pos (by simpa using h1)]
     exact ⟨rfl,hM,KX.refl _ _⟩)
  | (rw [VM.chooseS,if_neg (by omega),hy]
     exact ⟨rfl,M2,K2⟩)
  | (rw [VM.chooseS,if_neg (by simpa using h1),List.getElem?_eq_none (by simp at h2;omega)]
     exact ⟨rfl,hM,KX.refl _ _⟩)
theorem menter_c (s:Sg) (im ih:Nat) (m:VM) (x:Instr) (n:Int) (hM:MS im ih m s) (hI:RI m) (hx:IOk x n) (h6:m.code.entries.length ≤ 2 ^ 40):HC p N50_ [.ptr im 0,.agg x.cs] s (fun r s'=>r=[I (m.enterS x).2] ∧ MS im ih (m.enterS x).1 s' ∧ KX [im,ih] s s'):=by
 obtain ⟨vr,vo,h1m,h2m,h3m,h4m,h5m⟩:=hM.row
 refine hcf J f50_ J ?_
 simp only [chainOf]
 refine er (hbox (dq2 J) J (lq7 J) (qp J (qn (kq2 J) (kq1 J) (er (pq3 J (hcall J J J (mtag_c _ im ih m x.a hM hx.a.1 hI.v) ?_))))))
 rintro _ _ ⟨rfl,rfl⟩
 refine qp J (qn (kq3 J) (kq1 J) (eseq (er (pq2 J (qb ?_)))))
 rintro (_ | _) h1
 refine qp J (qg J (qp J (qg J (qp J (qg J (qp J (qg J (qp J (qg J (qp J (qg J (hldo J h1m J ?_))))))))))))
 refine qg J (qp J (qg J (qp J (qb ?_))))
 rintro (_ | _) h2
 refine qp rfl (qk (kc rfl (kc rfl (kc rfl (kc rfl kn)))) (kc rfl kn) (sqn (ecF rfl (eskip (sqn (eseq (ereg (qp rfl (qp rfl (qp rfl (qp rfl (hcall rfl rfl rfl (list_c _ im ih m x.regs hM (fun r hr=>(hx.rg r hr).1) (by have:=hx.rl;omega)) ?_))))))))))))
 rintro _ S1 ⟨_,g1,n1,rfl,rfl,l3,l4,l5⟩
 refine pq3 J (hcall J J J (get_c _ im ih m x.a (hM.kl l5.kl) hx.a.1) ?_)
 rintro _ _ ⟨rfl,hq⟩
 obtain rfl:=hq.symm
 refine hbsl rfl rfl (lc rfl (ln rfl)) (hcall rfl rfl rfl (insert_c l4 (by rw [listR,List.length_map];have:=hx.rl;omega)) ?_)
 rintro _ S2 ⟨g2,rfl,i1,i2,i3⟩
 have i4:=mx_fresh (n:=n1) l5 l3 i3
 refine qp rfl (qp rfl (hst3 (cs':=VM.row { m with regs:=(getR m.regs x.a :: listR m.regs x.regs) } ih (.ms g2 0 ((listR m.regs x.regs).length + 1) 2) vo) rfl rfl ((congrFun i4.ob im).trans h1m) rfl rfl (by simp) (by simp [VM.row]) rfl ?_))
 obtain ⟨M1,K1⟩:=hM.setR (l:=(getR m.regs x.a :: listR m.regs x.regs)) h1m i2 (i4.upX _) (fun g hg=>.inr (by rw [List.mem_singleton.1 hg];exact Nat.le_trans l5.mn i1))
 refine qn (kq2 J) kn (er (pq5 J ?_))
 obtain ⟨vr2,vo2,h2n,_⟩:=M1.row
 refine hldo J h2n J ?_
 refine qp J ?_
 have h0:0 ≤ tagR m x.a:=by simpa using h1
 obtain ⟨y,hy⟩:=get_of_lt (l:=m.code.entries) (i:=(tagR m x.a).toNat) (by simp at h2;omega)
 refine hia (y:=I y) rfl rfl h0 (by rw [Lgm,hy];rfl) rfl ?_
 refine pq3 J ?_
 obtain ⟨vr1,vo1,h1n,_⟩:=M1.row
 refine hsto (cs':=VM.row { { m with regs:=(getR m.regs x.a :: listR m.regs x.regs) } with at_:=y } ih vr1 vo1) rfl rfl h1n rfl (Nlb rfl) (by simp) rfl ?_
 obtain ⟨M2,K2⟩:=MS.set { { m with regs:=(getR m.regs x.a :: listR m.regs x.regs) } with at_:=y } M1 h1n rfl rfl rfl
 have K2:=KX.trans K1 K2
 refine qn kn kn (er (qp J (qn (kq1 J) kn (eret (fqr J ?_)))))
 rotate_left
 refine qp J (qn (kq4 J) (kq1 J) (ecT J (er (qp J (qn (kq1 J) kn (eret (sqr (fqr J ?_))))))))
 rotate_left
 refine qp J (zq8 J (qp J (qn (kq4 J) (kq1 J) (ecT J (er (qp J (qn (kq1 J) kn (eret (sqr (fqr J ?_))))))))))
 rotate_left
 all_goals
  first
  | (rw [VM.enterS,if_pos (by simpa using h1)]
     exact ⟨rfl,hM,KX.refl _ _⟩)
  | (rw [VM.enterS,if_neg (by omega),hy]
     exact ⟨rfl,M2,K2⟩)
  | (rw [VM.enterS,if_neg (by simpa using h1),List.getElem?_eq_none (by simp at h2;omega)]
     exact ⟨rfl,hM,KX.refl _ _⟩)
end Go.Sim.W
namespace Go.Sim.W
open Go Go.Sim
theorem HInv.ofM {im ih:Nat} {m:VM} {S:Sg} (h:MS im ih m S):HInv m.h:=h.hp.2
theorem mh_eta {im ih:Nat} {m:VM} {S:Sg} (h:MS im ih { m with h:=m.h } S):MS im ih m S:=h
theorem fit_not {m:VM} {k:Nat} (h:¬ m.fits k=true):m.fit1 k=m.gc:=if_neg h
theorem fit_yes {m:VM} {k:Nat} (h:m.fits k=true):m.fit1 k=m:=if_pos h
theorem own_sep {im ih:Nat} {m:VM} {S S1:Sg} {g1 n1:Nat} (h:MS im ih m S) (k:MX [] S S1) (hg:S.mn ≤ g1):∀ g ∈ tk (.ms g1 0 n1 2),¬ own [ih] S1 g:=fun g h1 ho=>by
 rw [List.mem_singleton.1 h1] at ho
 have:=own_lt h.hp.1 rfl (k.kl.own h.hp.1.lt ho)
 omega
theorem halloc_v {s:Sg} {im ih:Nat} {m:VM} {x:Instr} {g1 n1:Nat} {N:Int} {S:Sg} (M0:MS im ih m S) (R0:RI m) (hx:IOk x N) (h3x:x.op=3) (l3:S.mn ≤ g1) (l4:WE 2 (.ms g1 0 n1 2) (wcs (listR m.regs x.regs)) s) (l5:MX [] S s) :
 HC p N72_ [.ptr ih 0,I x.n,.ms g1 0 n1 2] s fun r s'=>r=[I (if m.fits x.regs.length=true then (cellsF m.h.obs).length else 0),I (if m.fits x.regs.length=true then 0 else 170)] ∧ MS im ih { m with h:=if m.fits x.regs.length=true then m.h.push x.n (listR m.regs x.regs) else m.h } s' ∧ KX [im,ih] S s':=by
 have e:(listR m.regs x.regs).length=x.regs.length:=List.length_map ..
 have:=halloc_u s im ih m x.n (.ms g1 0 n1 2) (listR m.regs x.regs) (M0.kl l5.kl) (hx.n3 h3x) (by rw [e];exact hx.rl) (validW_list R0.v x.regs) (l4.rl (wcs_sz _)) (own_sep M0 l5 l3)
 rw [e] at this
 refine this.mono ?_
 rintro r s' ⟨h1,h2,h3⟩
 exact ⟨h1,h2,(l5.kl.kx M0.lth).trans h3⟩
theorem malloc_c (s:Sg) (im ih:Nat) (m:VM) (x:Instr) (n:Int) (hM:MS im ih m s) (hI:RI m) (hx:IOk x n) (h3x:x.op=3):HC p N45_ [.ptr im 0,.agg x.cs] s (fun r s'=>r=[I (m.allocS x).2] ∧ MS im ih (m.allocS x).1 s' ∧ KX [im,ih] s s'):=by
 have M0:=hM
 have K0:=KX.refl [im,ih] s
 have R0:=hI
 obtain ⟨vr,vo,h1m,h2m,h3m,h4m,h5m⟩:=hM.row
 refine hcf J f45_ J ?_
 simp only [chainOf]
 refine er (hbox (dq2 J) J (lq7 J) (qp J (qn (kq2 J) (kq1 J) (eseq (eseq ?_)))))
 refine ejoin 23 (decide (0 < m.period) && decide (m.news.tmod m.period=0)) (k:=[0,3,23]) (kl:=[3]) (kc rfl (kc rfl (kc rfl kn))) (kc rfl kn) ?_ ?_
 refine ereg (pq3 J (hldo J h1m J ?_))
 refine qp J (qb ?_)
 rintro (_ | _) h1
 refine qp J (zq10 J (qp J (qk (kq3 J) (kq1 J) ?_)))
 exact ⟨rfl,by rw [show (decide (0 < m.period) && decide (m.news.tmod m.period=0))=false from by (simp_all <;> (intro hq;exact absurd hq (by omega)))]⟩
 refine qp J (qg J (qp J (qg J (qp J (qg J (qp J (qg J (hldo J h1m J ?_))))))))
 refine qg J (qp J (qg J (qp J (qg J (qp J (qg J (hldo J h1m J ?_)))))))
 refine qg rfl (hrem rfl rfl (by simp at h1;omega) (qg rfl (qp rfl (qb ?_))))
 rintro (_ | _) h2
 refine qp J (qk (kq3 J) (kq1 J) ?_)
 exact ⟨rfl,by rw [show (decide (0 < m.period) && decide (m.news.tmod m.period=0))=false from by (simp_all <;> (intro hq;exact absurd hq (by omega)))]⟩
 refine qp J (qk (kq3 J) (kq1 J) ?_)
 exact ⟨rfl,by rw [show (decide (0 < m.period) && decide (m.news.tmod m.period=0))=true from by (simp_all <;> (intro hq;exact absurd hq (by omega)))]⟩
 refine sqn ?_
 refine ecS J ?_ ?_
 intro h3
 refine ereg (qp rfl (hcall rfl rfl rfl (mcollect_c _ im ih m M0 (by have:=R0.rl;omega) R0.v) ?_))
 rintro _ S1 ⟨rfl,M1,K1⟩
 have K0:=K0.trans K1
 have R0:=RI.gc R0 (HInv.ofM M0)
 replace M0:=M1
 refine qn (kq2 J) (kq1 J) (er (pq3 J ?_))
 obtain ⟨m0,e0,M0,R0⟩:∃ m0,m0=m.alloc0 ∧ MS im ih m0 _ ∧ RI m0:=⟨_,by first | exact (if_pos (by simpa using h3)).symm | exact (if_neg (by simpa using h3)).symm,M0,R0⟩
 obtain ⟨vr1,vo1,h1n,_⟩:=M0.row
 refine hldoF J J h1n J ?_
 refine pq5 J ?_
 refine hcallk rfl rfl rfl (list_c _ im ih _ x.regs M0 (fun r hr=>(hx.rg r hr).1) (by have:=hx.rl;omega)) ?_ ?_
 rintro _ S1 ⟨_,g1,n1,rfl,rfl,l3,l4,l5⟩
 obtain ⟨_,_,h1q,_⟩:=M0.row
 exact ⟨.inl ⟨im,0,_,rfl,h1q,(congrFun l5.ob im).trans h1q⟩,l5.Q⟩
 rintro _ S1 ⟨_,g1,n1,rfl,rfl,l3,l4,l5⟩
 refine hcall J J J (halloc_v M0 R0 hx h3x l3 l4 l5) ?_
 rintro _ S2 ⟨rfl,M2,K2⟩
 have K0:=K0.trans K2
 refine pq5 J (qn (kq4 J) (kq1 J) (eseq (er (pq2 J (qb ?_)))))
 rintro (_ | _) h4
 have hf:m0.fits x.regs.length=true:=by cases hq:m0.fits x.regs.length <;> simp [hq] at h4 ⊢
 refine qn (kq5 J) (kq1 J) (ecF J (eskip (sqn (eseq (er (qp J ?_))))))
 have e1:m0=m.alloc0.fit1 x.regs.length:=by first | exact e1 | (rw [← e0,fit_yes hf])
 refine qp J (qb ?_)
 rintro (_ | _) h5
 have hg:m0.fits x.regs.length=true:=by cases hq:m0.fits x.regs.length <;> simp [hq] at h5 ⊢
 rotate_left
 have hg:¬ m0.fits x.regs.length=true:=by cases hq:m0.fits x.regs.length <;> simp [hq] at h5 ⊢
 refine qn (kq4 J) (kq1 J) (ecT J (er (qp J (qn (kq1 J) kn (eret (sqr (fqr J ?_)))))))
 first
 | exact absurd hf hg
 | (rw [VM.allocS,← e1,if_neg hg]
    rw [if_neg hg] at M2
    replace M2:=mh_eta M2
    exact ⟨rfl,M2,K0⟩)
 | (rw [VM.allocS,← e1,if_pos hg]
    rw [if_pos hg] at M5 K0
    exact ⟨rfl,M5,K0⟩)
 have hf:¬ m0.fits x.regs.length=true:=by cases hq:m0.fits x.regs.length <;> simp [hq] at h4 ⊢
 rw [if_neg hf] at M2
 replace M2:=mh_eta M2
 refine qk (kc rfl (kc rfl (kc rfl (kc rfl (kc rfl kn))))) (kc rfl kn) (sqn (ecT rfl (eseq (ereg (qp rfl (hcall rfl rfl rfl (mcollect_c _ im ih m0 M2 (by have:=R0.rl;omega) R0.v) ?_))))))
 rintro _ S1 ⟨rfl,M1,K1⟩
 have K0:=K0.trans K1
 have R0:=RI.gc R0 (HInv.ofM M0)
 replace M0:=M1
 refine qn (kq2 J) (kq1 J) (ereg (pq3 J ?_))
 obtain ⟨m0,e1,M0,R0⟩:∃ m1,m1=m.alloc0.fit1 x.regs.length ∧ MS im ih m1 _ ∧ RI m1:=⟨_,by rw [← e0,fit_not hf],M0,R0⟩
 obtain ⟨vr1,vo1,h1n,_⟩:=M0.row
 refine hldoF J J h1n J ?_
 refine pq5 J ?_
 refine hcallk rfl rfl rfl (list_c _ im ih _ x.regs M0 (fun r hr=>(hx.rg r hr).1) (by have:=hx.rl;omega)) ?_ ?_
 rintro _ S1 ⟨_,g1,n1,rfl,rfl,l3,l4,l5⟩
 obtain ⟨_,_,h1q,_⟩:=M0.row
 exact ⟨.inl ⟨im,0,_,rfl,h1q,(congrFun l5.ob im).trans h1q⟩,l5.Q⟩
 rintro _ S1 ⟨_,g1,n1,rfl,rfl,l3,l4,l5⟩
 refine hcall J J J (halloc_v M0 R0 hx h3x l3 l4 l5) ?_
 rintro _ S2 ⟨rfl,M2,K2⟩
 have K0:=K0.trans K2
 refine pq5 J (qn (kq4 J) (kq1 J) (eseq (er (qp J ?_))))
 have e1:m0=m.alloc0.fit1 x.regs.length:=by first | exact e1 | (rw [← e0,fit_yes hf])
 refine qp J (qb ?_)
 rintro (_ | _) h6
 have hg:m0.fits x.regs.length=true:=by cases hq:m0.fits x.regs.length <;> simp [hq] at h6 ⊢
 rotate_left
 have hg:¬ m0.fits x.regs.length=true:=by cases hq:m0.fits x.regs.length <;> simp [hq] at h6 ⊢
 refine qn (kq4 J) (kq1 J) (ecT J (er (qp J (qn (kq1 J) kn (eret (sqr (fqr J ?_)))))))
 first
 | exact absurd hf hg
 | (rw [VM.allocS,← e1,if_neg hg]
    rw [if_neg hg] at M2
    replace M2:=mh_eta M2
    exact ⟨rfl,M2,K0⟩)
 | (rw [VM.allocS,← e1,if_pos hg]
    rw [if_pos hg] at M5 K0
    exact ⟨rfl,M5,K0⟩)
 intro h3
 refine eskip (sqn (er (pq3 J ?_)))
 obtain ⟨m0,e0,M0,R0⟩:∃ m0,m0=m.alloc0 ∧ MS im ih m0 _ ∧ RI m0:=⟨_,by first | exact (if_pos (by simpa using h3)).symm | exact (if_neg (by simpa using h3)).symm,M0,R0⟩
 obtain ⟨vr1,vo1,h1n,_⟩:=M0.row
 refine hldoF J J h1n J ?_
 refine pq5 J ?_
 refine hcallk rfl rfl rfl (list_c _ im ih _ x.regs M0 (fun r hr=>(hx.rg r hr).1) (by have:=hx.rl;omega)) ?_ ?_
 rintro _ S1 ⟨_,g1,n1,rfl,rfl,l3,l4,l5⟩
 obtain ⟨_,_,h1q,_⟩:=M0.row
 exact ⟨.inl ⟨im,0,_,rfl,h1q,(congrFun l5.ob im).trans h1q⟩,l5.Q⟩
 rintro _ S1 ⟨_,g1,n1,rfl,rfl,l3,l4,l5⟩
 refine hcall J J J (halloc_v M0 R0 hx h3x l3 l4 l5) ?_
 rintro _ S2 ⟨rfl,M2,K2⟩
 have K0:=K0.trans K2
 refine pq5 J (qn (kq4 J) (kq1 J) (eseq (er (pq2 J (qb ?_)))))
 rintro (_ | _) h7
 have hf:m0.fits x.regs.length=true:=by cases hq:m0.fits x.regs.length <;> simp [hq] at h7 ⊢
 refine qn (kq5 J) (kq1 J) (ecF J (eskip (sqn (eseq (er (qp J ?_))))))
 have e1:m0=m.alloc0.fit1 x.regs.length:=by first | exact e1 | (rw [← e0,fit_yes hf])
 refine qp J (qb ?_)
 rintro (_ | _) h8
 have hg:m0.fits x.regs.length=true:=by cases hq:m0.fits x.regs.length <;> simp [hq] at h8 ⊢
 rotate_left
 have hg:¬ m0.fits x.regs.length=true:=by cases hq:m0.fits x.regs.length <;> simp [hq] at h8 ⊢
 refine qn (kq4 J) (kq1 J) (ecT J (er (qp J (qn (kq1 J) kn (eret (sqr (fqr J ?_)))))))
 first
 | exact absurd hf hg
 | (rw [VM.allocS,← e1,if_neg hg]
    rw [if_neg hg] at M2
    replace M2:=mh_eta M2
    exact ⟨rfl,M2,K0⟩)
 | (rw [VM.allocS,← e1,if_pos hg]
    rw [if_pos hg] at M5 K0
    exact ⟨rfl,M5,K0⟩)
 have hf:¬ m0.fits x.regs.length=true:=by cases hq:m0.fits x.regs.length <;> simp [hq] at h7 ⊢
 rw [if_neg hf] at M2
 replace M2:=mh_eta M2
 refine qk (kc rfl (kc rfl (kc rfl (kc rfl (kc rfl kn))))) (kc rfl kn) (sqn (ecT rfl (eseq (ereg (qp rfl (hcall rfl rfl rfl (mcollect_c _ im ih m0 M2 (by have:=R0.rl;omega) R0.v) ?_))))))
 rintro _ S1 ⟨rfl,M1,K1⟩
 have K0:=K0.trans K1
 have R0:=RI.gc R0 (HInv.ofM M0)
 replace M0:=M1
 refine qn (kq2 J) (kq1 J) (ereg (pq3 J ?_))
 obtain ⟨m0,e1,M0,R0⟩:∃ m1,m1=m.alloc0.fit1 x.regs.length ∧ MS im ih m1 _ ∧ RI m1:=⟨_,by rw [← e0,fit_not hf],M0,R0⟩
 obtain ⟨vr1,vo1,h1n,_⟩:=M0.row
 refine hldoF J J h1n J ?_
 refine pq5 J ?_
 refine hcallk rfl rfl rfl (list_c _ im ih _ x.regs M0 (fun r hr=>(hx.rg r hr).1) (by have:=hx.rl;omega)) ?_ ?_
 rintro _ S1 ⟨_,g1,n1,rfl,rfl,l3,l4,l5⟩
 obtain ⟨_,_,h1q,_⟩:=M0.row
 exact ⟨.inl ⟨im,0,_,rfl,h1q,(congrFun l5.ob im).trans h1q⟩,l5.Q⟩
 rintro _ S1 ⟨_,g1,n1,rfl,rfl,l3,l4,l5⟩
 refine hcall J J J (halloc_v M0 R0 hx h3x l3 l4 l5) ?_
 rintro _ S2 ⟨rfl,M2,K2⟩
 have K0:=K0.trans K2
 refine pq5 J (qn (kq4 J) (kq1 J) (eseq (er (qp J ?_))))
 have e1:m0=m.alloc0.fit1 x.regs.length:=by first | exact e1 | (rw [← e0,fit_yes hf])
 refine qp J (qb ?_)
 rintro (_ | _) h9
 have hg:m0.fits x.regs.length=true:=by cases hq:m0.fits x.regs.length <;> simp [hq] at h9 ⊢
 rotate_left
 have hg:¬ m0.fits x.regs.length=true:=by cases hq:m0.fits x.regs.length <;> simp [hq] at h9 ⊢
 refine qn (kq4 J) (kq1 J) (ecT J (er (qp J (qn (kq1 J) kn (eret (sqr (fqr J ?_)))))))
 first
 | exact absurd hf hg
 | (rw [VM.allocS,← e1,if_neg hg]
    rw [if_neg hg] at M2
    replace M2:=mh_eta M2
    exact ⟨rfl,M2,K0⟩)
 | (rw [VM.allocS,← e1,if_pos hg]
    rw [if_pos hg] at M5 K0
    exact ⟨rfl,M5,K0⟩)
 all_goals
  rw [if_pos hg] at M2
  refine qn (kq4 J) (kq1 J) (ecF J (eskip (sqn (er (pq3 J ?_)))))
  have hnw:=R0.nw
  have hat:=R0.at0
  obtain ⟨vr3,vo3,h3n,_⟩:=M2.row
  refine hldo J h3n J ?_
  refine hadd (r:=m0.news + 1) rfl rfl (show IntKind.i64.wrap (m0.news + 1)=m0.news + 1 from i64w (by omega)) (qp rfl (qp rfl (hsto (cs':=VM.row { m0 with h:=m0.h.push x.n (listR m0.regs x.regs),news:=m0.news + 1 } ih vr3 vo3) rfl rfl h3n rfl (Nlb rfl) (by simp) rfl ?_)))
  obtain ⟨M3,K3⟩:=MS.set { m0 with h:=m0.h.push x.n (listR m0.regs x.regs),news:=m0.news + 1 } M2 h3n rfl rfl rfl
  have K0:=K0.trans K3
  refine qk (kc rfl (kc rfl (kc rfl kn))) (kc rfl kn) (sqn (eseq (ereg (qp rfl (qp rfl (qp rfl (qp rfl (hbuild rfl rfl (lc rfl (lc rfl (ln rfl))) (hcall rfl rfl rfl (set_c _ im ih { m0 with h:=m0.h.push x.n (listR m0.regs x.regs),news:=m0.news + 1 } x.a ⟨true,(if m0.fits x.regs.length=true then (cellsF m0.h.obs).length else 0:Int)⟩ M3 (by have:=hx.a;omega)) ?_)))))))))
  rintro _ S4 ⟨rfl,M4,K4⟩
  have K0:=K0.trans K4
  refine qn (kq1 J) kn (er (pq3 J ?_))
  obtain ⟨vr4,vo4,h4n,_⟩:=M4.row
  refine hldo J h4n J ?_
  refine hadd (r:=m0.at_ + 1) rfl rfl (show IntKind.i64.wrap (m0.at_ + 1)=m0.at_ + 1 from i64w (by omega)) (qp rfl (qp rfl (hsto (cs':=VM.row { m0 with h:=m0.h.push x.n (listR m0.regs x.regs),news:=m0.news + 1,regs:=setR m0.regs x.a ⟨true,(if m0.fits x.regs.length=true then (cellsF m0.h.obs).length else 0:Int)⟩,at_:=m0.at_ + 1 } ih vr4 vo4) rfl rfl h4n rfl (Nlb rfl) (by simp) rfl ?_)))
  obtain ⟨M5,K5⟩:=MS.set { m0 with h:=m0.h.push x.n (listR m0.regs x.regs),news:=m0.news + 1,regs:=setR m0.regs x.a ⟨true,(if m0.fits x.regs.length=true then (cellsF m0.h.obs).length else 0:Int)⟩,at_:=m0.at_ + 1 } M4 h4n rfl rfl rfl
  have K0:=K0.trans K5
  refine qn kn kn (er (qp J (qn (kq1 J) kn (eret (fqr J ?_)))))
  first
  | exact absurd hf hg
  | (rw [VM.allocS,← e1,if_neg hg]
     rw [if_neg hg] at M2
     replace M2:=mh_eta M2
     exact ⟨rfl,M2,K0⟩)
  | (rw [VM.allocS,← e1,if_pos hg]
     rw [if_pos hg] at M5 K0
     exact ⟨rfl,M5,K0⟩)
def VM.exec (m:VM) (x:Instr):VM × Int :=
 if x.op=0 then (m.put x.a ⟨false,x.n⟩,0) else if x.op=1 then (m.put x.a (getR m.regs x.b),0) else if x.op=2 then m.primS x else if x.op=3 then m.allocS x else if x.op=4 then m.loadS x else if x.op=5 then m.zeroS x
 else if x.op=6 then m.chooseS x else if x.op=7 then ({ m with regs:=listR m.regs x.regs,at_:=x.n },0) else if x.op=8 then m.enterS x else if x.op=9 then m.emitS x else m.doneS x
def rulesL:List AV:=[N42_,N43_,N44_,N45_,N46_,N47_,N48_,N49_,N50_,N51_,N52_].map fun f=>.fn f [] []
theorem rules_c (s:Sg):HC p N27_ [] s (fun r s'=>r=[.agg rulesL] ∧ s'=s):=by
 refine hcf J f27_ J ?_
 simp only [chainOf]
 refine er (hal dn (qn (kq1 J) (kq1 J) (er (hbuild J J (lq11 J) (hstl J J J J (Nlb J) (lq11 J) (qn (kq1 J) (kq1 J) (eret (fqr J ?_))))))))
 exact ⟨rfl,rfl⟩
theorem rule_c (s:Sg) (im ih:Nat) (m:VM) (x:Instr) (n:Int) (hM:MS im ih m s) (hI:RI m) (hx:IOk x n) (h6:x.to.length ≤ 2 ^ 40) (h8:m.code.entries.length ≤ 2 ^ 40):∃ f,rulesL[x.op.toNat]?=some (.fn f [] []) ∧ HC p f [.ptr im 0,.agg x.cs] s (fun r s'=>r=[I (m.exec x).2] ∧ MS im ih (m.exec x).1 s' ∧ KX [im,ih] s s'):=by
 rcases op_cases hx.op.1 hx.op.2 with h | h | h | h | h | h | h | h | h | h | h
 all_goals simp only [h,VM.exec,if_true]
 ·exact ⟨_,rfl,lit_c s im ih m x n hM hI hx⟩
 ·exact ⟨_,rfl,mmove_c s im ih m x n hM hI hx⟩
 ·exact ⟨_,rfl,mprim_c s im ih m x n hM hI hx⟩
 ·exact ⟨_,rfl,malloc_c s im ih m x n hM hI hx h⟩
 ·exact ⟨_,rfl,mload_c s im ih m x n hM hI hx h⟩
 ·exact ⟨_,rfl,mzero_c s im ih m x n hM hI hx h⟩
 ·exact ⟨_,rfl,mchoose_c s im ih m x n hM hI hx h6⟩
 ·exact ⟨_,rfl,mjump_c s im ih m x n hM hI hx h⟩
 ·exact ⟨_,rfl,menter_c s im ih m x n hM hI hx h8⟩
 ·exact ⟨_,rfl,memit_c s im ih m x n hM hI hx⟩
 exact ⟨_,rfl,mdone_c s im ih m x n hM hI hx⟩
def VM.end_ (m:VM) (k:Int):VM:={ m with fin:=k,over:=true }
theorem mend_c (s:Sg) (im ih:Nat) (m:VM) (k:Int) (hM:MS im ih m s):HC p N26_ [.ptr im 0,I k] s (fun r s'=>r=[] ∧ MS im ih (m.end_ k) s' ∧ KX [im,ih] s s'):=by
 obtain ⟨vr,vo,h1m,h2m,h3m,h4m,h5m⟩:=hM.row
 refine hcf J f26_ J ?_
 simp only [chainOf]
 refine ereg (qp rfl (qp rfl (qp rfl (qp rfl (qp rfl (qp rfl (hsto (cs':=VM.row { m with fin:=k } ih vr vo) rfl rfl h1m rfl (Nlb rfl) (by simp) rfl ?_)))))))
 obtain ⟨M1,K1⟩:=MS.set { m with fin:=k } hM h1m rfl rfl rfl
 refine qp rfl (qp rfl (hsto (cs':=VM.row { m with fin:=k,over:=true } ih vr vo) rfl rfl (upd_same _ _ _) rfl (Nlb rfl) (by simp) rfl ?_))
 obtain ⟨M2,K2⟩:=MS.set { m with fin:=k,over:=true } M1 (upd_same _ _ _) rfl rfl rfl
 refine qk kn kn (fqn J ?_)
 exact ⟨rfl,M2,K1.trans K2⟩
end Go.Sim.W
namespace Go.Sim.W
open Go Go.Sim
def stepR (q:VM × Int):VM × Bool:=if q.2=1 then (q.1.end_ 2,false) else if q.2=2 then (q.1.end_ 3,false) else if q.2=3 then ({ q.1.end_ 0 with steps:=q.1.steps + 1 },true) else ({ q.1 with steps:=q.1.steps + 1 },true)
def VM.step (m:VM):VM × Bool:=if m.over=true then (m,false) else if m.steps=m.fuel then (m.end_ 1,false) else match m.code.ins[m.at_.toNat]? with
 | none=>(m,false)
 | some x=>stepR (m.exec x)
structure MInv (m:VM):Prop where
 ok:codeOk m.code=true
 hi:HInv m.h
 v:validW m.h.obs m.regs=true
 rl:m.regs.length ≤ 1024
 at0:0 ≤ m.at_ ∧ m.at_ < m.code.ins.length
 st:0 ≤ m.steps ∧ m.steps ≤ m.fuel ∧ m.fuel ≤ 2 ^ 20
 nw:0 ≤ m.news ∧ m.news ≤ m.steps + 1 ∧ (m.over=false → m.news ≤ m.steps)
 ol:(m.outs.length:Int) ≤ m.steps + 1 ∧ (m.over=false → (m.outs.length:Int) ≤ m.steps)
structure CodeF (c:Code):Prop where
 i:∀ x ∈ c.ins,instrOk x c.ins.length=true
 n:1 ≤ c.ins.length ∧ c.ins.length ≤ 100000
 e:c.entries.length ≤ 100000
 ea:∀ a ∈ c.entries,0 ≤ a ∧ a < c.ins.length
 last:ends (lastOp c.ins)=true
 p:0 ≤ c.params ∧ c.params ≤ 6
theorem codeF {c:Code} (h:codeOk c=true):CodeF c:=by
 simp only [codeOk,Bae,Dte] at h
 obtain ⟨⟨⟨⟨⟨⟨h0,h1⟩,h2⟩,h3⟩,h4⟩,h5⟩,h6⟩:=h
 exact ⟨List.all_eq_true.1 h5,⟨h1,h2⟩,h3,fun a ha=>by have:=within_iff.1 ((List.all_eq_true.1 h4) a ha);omega,h6,within_iff.1 h0⟩
theorem next_lt {c:Code} (h:codeOk c=true) {i:Nat} {x:Instr} (hx:c.ins[i]?=some x) (he:ends x.op=false):i + 1 < c.ins.length:=by
 have hf:=codeF h
 have hlt:i < c.ins.length:=by
  rcases Nat.lt_or_ge i c.ins.length with h | h
  ·exact h
  rw [List.getElem?_eq_none h] at hx;cases hx
 rcases Nat.lt_or_ge (i + 1) c.ins.length with h' | h'
 ·exact h'
 have e:c.ins.length - 1=i:=by omega
 have:=hf.last
 rw [lastOp,e,Lgm,hx] at this
 simp only [Option.map_some,Option.getD_some] at this
 rw [this] at he
 cases he
theorem MInv.ri {m:VM} (h:MInv m):RI m:=by
 have h1:=h.st
 have h2:=h.nw
 have h3:=h.ol
 have h4:=h.at0
 have h5:=(codeF h.ok).n
 exact ⟨h.v,h.rl,by omega,by omega,by omega⟩
structure XI (m q:VM):Prop where
 code:q.code=m.code
 fuel:q.fuel=m.fuel
 steps:q.steps=m.steps
 over:q.over=m.over
 period:q.period=m.period
 fin:q.fin=m.fin
 size:q.h.size=m.h.size
 hi:HInv q.h
 v:validW q.h.obs q.regs=true
 rl:q.regs.length ≤ 1024
 at0:0 ≤ q.at_ ∧ q.at_ < m.code.ins.length
 nw:0 ≤ q.news ∧ q.news ≤ m.news + 1
 outs:∃ e,q.outs=m.outs ++ e ∧ e.length ≤ 1
theorem XI.refl {m:VM} (h:MInv m):XI m m:=⟨rfl,rfl,rfl,rfl,rfl,rfl,rfl,h.hi,h.v,h.rl,h.at0,by have:=h.nw;omega,[],by simp,by simp⟩
theorem validW_iff {obs:List HOb} {l:List Word}:validW obs l=true ↔ ∀ w ∈ l,w.ref=true → hasF obs w.n=true:=by
 induction l with
 | nil=>simp [validW]
 | cons w l ih=>rw [validW_cons,ih];simp
theorem setR_valid {obs:List HOb} {l:List Word} {r:Int} {w:Word} (h:validW obs l=true) (hw:w.ref=true → hasF obs w.n=true):validW obs (setR l r w)=true:=by
 rw [validW_iff] at h ⊢
 intro u hu hr
 rcases List.mem_or_eq_of_mem_set hu with hu | rfl
 ·rcases List.mem_append.1 hu with hu | hu
  ·exact h u hu hr
  rw [(List.mem_replicate.1 hu).2] at hr
  cases hr
 exact hw hr
theorem setR_len {l:List Word} {r:Int} {w:Word} (h:l.length ≤ 1024) (h0:0 ≤ r ∧ r ≤ 1023):(setR l r w).length ≤ 1024:=by
 unfold setR padR
 rw [List.length_set,List.length_append,List.length_replicate]
 omega
theorem XI.put {m:VM} (h:MInv m) {r:Int} {w:Word} (h0:0 ≤ r ∧ r ≤ 1023) (hw:w.ref=true → hasF m.h.obs w.n=true) (hn:m.at_ + 1 < m.code.ins.length):XI m (m.put r w) :=
 ⟨rfl,rfl,rfl,rfl,rfl,rfl,rfl,h.hi,setR_valid h.v hw,setR_len h.rl h0,by have:=h.at0;show 0 ≤ m.at_ + 1 ∧ m.at_ + 1 < _;omega,by have:=h.nw;show 0 ≤ m.news ∧ m.news ≤ _;omega,[],by simp [VM.put],by simp⟩
theorem XI.gc {m q:VM} (h:XI m q):XI m q.gc:=by
 obtain ⟨h1,h2,h3,h4⟩:=collect_inv h.hi h.v
 exact ⟨h.code,h.fuel,h.steps,h.over,h.period,h.fin,h.size,h1,h2,by show (collectP q.h q.regs).2.length ≤ _;rw [h3];exact h.rl,h.at0,h.nw,h.outs⟩
theorem XI.alloc0 {m:VM} (h:MInv m):XI m m.alloc0:=by
 unfold VM.alloc0
 split
 ·exact (XI.refl h).gc
 exact XI.refl h
theorem XI.fit1 {m q:VM} (h:XI m q) (k:Nat):XI m (q.fit1 k):=by
 unfold VM.fit1
 split
 ·exact h
 exact h.gc
theorem gc_news (m:VM):m.gc.news=m.news:=rfl
theorem alloc_news (m:VM) (k:Nat):(m.alloc0.fit1 k).news=m.news ∧ (m.alloc0.fit1 k).at_=m.at_ ∧ (m.alloc0.fit1 k).outs=m.outs:=by
 unfold VM.fit1 VM.alloc0
 split <;> split <;> exact ⟨rfl,rfl,rfl⟩
theorem push_has {h:RH} (k:HInv h) {tag:Int} {fs:List Word}:hasF (h.push tag fs).obs (cellsF h.obs).length=true:=by
 have:(⟨(cellsF h.obs).length,tag,fs⟩:HOb) ∈ (h.push tag fs).obs:=List.mem_append.2 (.inr (by simp))
 exact hasF_mem this
theorem XI.alloc {m:VM} {x:Instr} (h:MInv m) (hx:IOk x m.code.ins.length) (h3:x.op=3) (hn:m.at_ + 1 < m.code.ins.length):XI m (m.allocS x).1:=by
 have k:=(XI.alloc0 h).fit1 x.regs.length
 obtain ⟨e1,e2,e3⟩:=alloc_news m x.regs.length
 unfold VM.allocS
 split
 ·rename_i hf
  have hz:((cellsF (m.alloc0.fit1 x.regs.length).h.obs).length:Int) + 1 + (listR (m.alloc0.fit1 x.regs.length).regs x.regs).length ≤ (m.alloc0.fit1 x.regs.length).h.size:=by
   rw [listR,List.length_map]
   exact Odt hf
  have hr:(listR (m.alloc0.fit1 x.regs.length).regs x.regs).length ≤ 1024:=by rw [listR,List.length_map];exact hx.rl
  have h0:=h.at0
  have h1:=h.nw
  refine ⟨k.code,k.fuel,k.steps,k.over,k.period,k.fin,k.size,k.hi.push hr (validW_list k.v _) hz,setR_valid (validW_mono (fun y hy=>hasF_app hy) k.v) (fun _=>push_has k.hi),setR_len k.rl hx.a,?_,?_,k.outs⟩
  ·show 0 ≤ (m.alloc0.fit1 x.regs.length).at_ + 1 ∧ (m.alloc0.fit1 x.regs.length).at_ + 1 < _
   rw [e2]
   omega
  show 0 ≤ (m.alloc0.fit1 x.regs.length).news + 1 ∧ (m.alloc0.fit1 x.regs.length).news + 1 ≤ _
  rw [e1]
  omega
 exact k
theorem exec_inv {m:VM} (h:MInv m) {x:Instr} (hx:m.code.ins[m.at_.toNat]?=some x):XI m (m.exec x).1:=by
 have hf:=codeF h.ok
 have hk:=iok (hf.i x (Lmg hx))
 have h0:=h.at0
 have hN:=h.nw
 have nx:ends x.op=false → m.at_ + 1 < m.code.ins.length:=fun he=>by
  have:=next_lt h.ok hx he
  omega
 have at':∀ (l:List Word) (a:Int),validW m.h.obs l=true → l.length ≤ 1024 → 0 ≤ a ∧ a < m.code.ins.length → XI m { m with regs:=l,at_:=a }:=fun l a h1 h2 h3 =>
  ⟨rfl,rfl,rfl,rfl,rfl,rfl,rfl,h.hi,h1,h2,h3,by show 0 ≤ m.news ∧ m.news ≤ _;omega,[],by simp,by simp⟩
 have hll:∀ rs,(listR m.regs rs).length=rs.length:=fun rs=>List.length_map ..
 rcases op_cases hk.op.1 hk.op.2 with e | e | e | e | e | e | e | e | e | e | e
 all_goals simp only [VM.exec,e]
 all_goals have hnx:=nx
 all_goals simp only [e] at hnx
 all_goals simp (config:={ decide:=true }) only [if_true,if_false]
 ·exact XI.put h hk.a (fun h=>by cases h) (hnx rfl)
 ·exact XI.put h hk.a (fun hr=>getR_has h.v hr) (hnx rfl)
 ·unfold VM.primS
  split
  ·exact XI.refl h
  exact XI.put h hk.a (fun h=>by cases h) (hnx rfl)
 ·exact XI.alloc h hk e (hnx rfl)
 ·unfold VM.loadS
  split
  ·split
   ·rename_i w hw
    obtain ⟨o,ho,hw⟩:=Obe.1 hw
    exact XI.put h hk.a (fun hr=>(validW_iff.1 (h.hi.v o (obAt_mem ho))) w (Lmg hw) hr) (hnx rfl)
   exact XI.refl h
  exact XI.refl h
 ·unfold VM.zeroS
  split
  ·exact XI.refl h
  split
  ·exact at' m.regs x.n h.v h.rl (hk.n57 (.inl e))
  exact at' m.regs (m.at_ + 1) h.v h.rl ⟨by omega,hnx rfl⟩
 ·unfold VM.chooseS
  split
  ·exact XI.refl h
  split
  ·rename_i a ha
   exact at' m.regs a h.v h.rl (hk.to a (Lmg ha))
  exact XI.refl h
 ·exact at' _ x.n (validW_list h.v _) (by rw [hll];exact hk.rl) (hk.n57 (.inr e))
 ·unfold VM.enterS
  split
  ·exact XI.refl h
  split
  ·rename_i a ha
   exact at' _ a (validW_cons.2 ⟨fun hr=>getR_has h.v hr,validW_list h.v _⟩) (by rw [List.length_cons,hll];have:=hk.r8 e;omega) (hf.ea a (Lmg ha))
  exact XI.refl h
 ·unfold VM.emitS
  split
  ·exact XI.refl h
  exact ⟨rfl,rfl,rfl,rfl,rfl,rfl,rfl,h.hi,h.v,h.rl,⟨by show 0 ≤ m.at_ + 1;omega,hnx rfl⟩,by show 0 ≤ m.news ∧ m.news ≤ _;omega,[_],rfl,by simp⟩
 unfold VM.doneS
 split
 ·exact XI.refl h
 exact ⟨rfl,rfl,rfl,rfl,rfl,rfl,rfl,h.hi,h.v,h.rl,h.at0,by show 0 ≤ m.news ∧ m.news ≤ _;omega,[],by simp,by simp⟩
theorem XI.minv {m q r:VM} (h:MInv m) (k:XI m q) (hov:m.over=false) (hs:m.steps < m.fuel) (e1:r.code=q.code) (e2:r.h=q.h) (e3:r.regs=q.regs) (e4:r.at_=q.at_) (e5:r.fuel=q.fuel) (e6:r.news=q.news) (e7:r.outs=q.outs)
 (e8:r.steps=q.steps + 1 ∨ r.steps=q.steps ∧ r.over=true):MInv r:=by
 obtain ⟨e,he,hl⟩:=k.outs
 have h1:=h.st
 have h2:=h.ol.2 hov
 have h3:=h.nw.2.2 hov
 have h4:=k.nw
 have h5:=k.steps
 have h6:=k.fuel
 have h7:r.outs.length ≤ m.outs.length + 1:=by rw [e7,he,List.length_append];omega
 have h8:=h.nw.1
 refine ⟨by rw [e1,k.code];exact h.ok,by rw [e2];exact k.hi,by rw [e2,e3];exact k.v,by rw [e3];exact k.rl,by rw [e1,e4,k.code];exact k.at0,?_,?_,?_⟩
 ·rw [e5,h6]
  rcases e8 with e8 | ⟨e8,_⟩ <;> rw [e8] <;> omega
 ·rw [e6]
  rcases e8 with e8 | ⟨e8,e9⟩
  ·rw [e8];exact ⟨by omega,by omega,fun _=>by omega⟩
  rw [e8,e9];exact ⟨by omega,by omega,fun h=>by cases h⟩
 rcases e8 with e8 | ⟨e8,e9⟩
 ·rw [e8];exact ⟨by omega,fun _=>by omega⟩
 rw [e8,e9];exact ⟨by omega,fun h=>by cases h⟩
theorem MInv.end_ {m:VM} (h:MInv m) (k:Int):MInv (m.end_ k):=⟨h.ok,h.hi,h.v,h.rl,h.at0,h.st,⟨h.nw.1,h.nw.2.1,fun h=>by cases h⟩,⟨h.ol.1,fun h=>by cases h⟩⟩
theorem step_go {m:VM} (ho:m.over=false) (hs:m.steps ≠ m.fuel) {x:Instr} (hx:m.code.ins[m.at_.toNat]?=some x):m.step=stepR (m.exec x):=by
 unfold VM.step
 rw [if_neg (by simp [ho]),if_neg hs,hx]
theorem at_some {m:VM} (h:MInv m):∃ x,m.code.ins[m.at_.toNat]?=some x:=get_of_lt (by have:=h.at0;omega)
theorem step_inv {m:VM} (h:MInv m):MInv m.step.1:=by
 cases ho:m.over with
 | true =>
   rw [VM.step,if_pos ho]
   exact h
 | false =>
   by_cases hs:m.steps=m.fuel
   ·rw [VM.step,if_neg (by simp [ho]),if_pos hs]
    exact h.end_ 1
   obtain ⟨x,hx⟩:=at_some h
   have hlt:m.steps < m.fuel:=by have:=h.st;omega
   have k:=exec_inv h hx
   rw [step_go ho hs hx]
   unfold stepR
   split
   ·exact k.minv h ho hlt rfl rfl rfl rfl rfl rfl rfl (.inr ⟨rfl,rfl⟩)
   split
   ·exact k.minv h ho hlt rfl rfl rfl rfl rfl rfl rfl (.inr ⟨rfl,rfl⟩)
   split
   ·exact k.minv h ho hlt rfl rfl rfl rfl rfl rfl rfl (.inl rfl)
   exact k.minv h ho hlt rfl rfl rfl rfl rfl rfl rfl (.inl rfl)
theorem steps_lt {m:VM} (h:MInv m) (hs:m.steps ≠ m.fuel):m.steps < m.fuel:=by
 have:=h.st
 omega
end Go.Sim.W
namespace Go.Sim.W
open Go Go.Sim
theorem ixv_eq {x:Int} {f:AV} {S:Sg} (h0:0 ≤ x ∧ x ≤ 10) (h:rulesL[x.toNat]?=some f):wopOf (.ixv 11 1 none) S [.agg rulesL,I x]=some (f,S):=by
 simp only [wopOf,asN,I,Obs,ixvOf]
 rw [if_pos ⟨h0.1,by omega⟩]
 simp only [rd,Nat.mul_one,h,Obs]
theorem MS.bump {im ih:Nat} {m:VM} {S:Sg} (h:MS im ih m S) (hb:0 ≤ m.steps ∧ m.steps ≤ 2 ^ 40):IntKind.i64.wrap (m.steps + 1)=m.steps + 1 ∧ ∃ row,S.ob im=some (.row row) ∧ row.length=14 ∧ rd none row 12=some (I m.steps) ∧
 MS im ih { m with steps:=m.steps + 1 } (S.set im (.row (wr row 12 [I (m.steps + 1)]))) ∧ KX [im,ih] S (S.set im (.row (wr row 12 [I (m.steps + 1)]))):=by
 obtain ⟨vr,vo,h1,_⟩:=h.row
 exact ⟨i64w (by omega),_,h1,rfl,rfl,MS.set { m with steps:=m.steps + 1 } h h1 rfl rfl rfl⟩
theorem step_c (s:Sg) (im ih:Nat) (m:VM) (hM:MS im ih m s) (hI:MInv m):HC p N13_ [.ptr im 0] s (fun r s'=>r=[B m.step.2] ∧ MS im ih m.step.1 s' ∧ KX [im,ih] s s'):=by
 obtain ⟨vr,vo,h1m,h2m,h3m,h4m,h5m⟩:=hM.row
 have hcd:=codeF hI.ok
 refine hcf J f13_ J ?_
 simp only [chainOf]
 refine er (qp J (qn (kq1 J) kn (eseq (er (qp J (hpeq J J J J J (qb ?_)))))))
 rintro (_ | _) h1
 refine qp J (qg J (qp J (qg J (qp J (qg J (qp J (qg J (hldo J h1m J ?_))))))))
 refine qb ?_
 rintro (_ | _) h2
 refine qp J (qn (kq2 J) kn (ecF J (eskip (sqn (eseq (eskip (sqn (eseq (eblock (eloop (eblock (eseq (er (pq4 J (hldo J h1m J ?_)))))))))))))))
 refine pq3 J (hldo J h1m J ?_)
 refine qp J (qb ?_)
 rintro (_ | _) h3
 refine qn (kq2 J) kn (ecF J (eskip (sqn (eseq (ereg_1 (dq2 J) (pq4 J (hldo J h1m J ?_)))))))
 refine pq3 J (hldo J h1m J ?_)
 obtain ⟨x,hx⟩:=at_some hI
 have hxi:=iok (hcd.i x (Lmg hx))
 refine hia (y:=.agg x.cs) rfl rfl hI.at0.1 (by rw [Lgm,hx];rfl) rfl ?_
 refine hlda J J (lq7 J) (hal (dq13 J) (hstl J J J J (Nlb J) (lq7 J) (qn (kq2 J) (kq1 J) (eseq (er (hcall J J J (rules_c _) ?_))))))
 rintro _ _ ⟨rfl,rfl⟩
 refine pq2 J ?_
 obtain ⟨f,f1,f2⟩:=rule_c _ im ih m x m.code.ins.length hM hI.ri hxi (by have:=hxi.tl;omega) (by have:=hcd.e;omega)
 refine hwop J (ixv_eq hxi.op f1) (qp J (hlda J J (lq7 J) (hcall J J J (f2) ?_)))
 rintro _ S1 ⟨rfl,M1,K1⟩
 have hk:=exec_inv hI hx
 have hst:=hI.st
 have hks:=hk.steps
 refine qn (kq2 J) kn (eblock (er (qp J (qb ?_))))
 rintro (_ | _) h4
 refine qp J (qn (kq3 J) kn (ecF J (er (qp J (qb ?_)))))
 rintro (_ | _) h5
 refine qp J (qn (kq3 J) kn (ecF J (er (qp J (qb ?_)))))
 rintro (_ | _) h6
 refine qp J (qn (kq2 J) kn (ecF J (eskip (bqn (sqn (er (pq4 J ?_)))))))
 obtain ⟨b0,row,b1,b2,b3,b4,b5⟩:=M1.bump (by first | omega | (simp only [VM.end_];omega))
 refine hldo J b1 b3 ?_
 refine hadd J J b0 (pq3 J (hsto J J b1 J (by simp [b2,I,AV.cells]) (by simp [I]) J (qn kn kn (er (qp J (qn (kq1 J) kn (eret (bqr (sqr (bqr (sqr (fqr J ?_))))))))))))
 rotate_left
 refine qp J (qn (kq2 J) kn (ecT J (ereg (qp J (hcall J J J (mend_c _ im ih _ 0 M1) ?_)))))
 rintro _ S2 ⟨rfl,M1,K2⟩
 have K1:=K1.trans K2
 refine qk (kq1 J) kn (bqn (sqn (er (pq4 J ?_))))
 obtain ⟨b0,row,b1,b2,b3,b4,b5⟩:=M1.bump (by first | omega | (simp only [VM.end_];omega))
 refine hldo J b1 b3 ?_
 refine hadd J J b0 (pq3 J (hsto J J b1 J (by simp [b2,I,AV.cells]) (by simp [I]) J (qn kn kn (er (qp J (qn (kq1 J) kn (eret (bqr (sqr (bqr (sqr (fqr J ?_))))))))))))
 rotate_left
 refine qp J (qn (kq3 J) kn (ecT J (er (qp J (hcall J J J (mend_c _ im ih _ 3 M1) ?_)))))
 rintro _ S2 ⟨rfl,M1,K2⟩
 have K1:=K1.trans K2
 refine qn kn kn (eexit (bqm (by decide) (sqx (bqm (by decide) (sqx (bqx (sqn (er (qp J (qn (kq1 J) kn (eret (fqr J ?_))))))))))))
 rotate_left
 refine qp J (qn (kq3 J) kn (ecT J (er (qp J (hcall J J J (mend_c _ im ih _ 2 M1) ?_)))))
 rintro _ S2 ⟨rfl,M1,K2⟩
 have K1:=K1.trans K2
 refine qn kn kn (eexit (bqm (by decide) (sqx (bqm (by decide) (sqx (bqx (sqn (er (qp J (qn (kq1 J) kn (eret (fqr J ?_))))))))))))
 rotate_left
 refine qn (kq2 J) kn (ecT J (er (qp J (hcall J J J (mend_c _ im ih m 1 hM) ?_))))
 rintro _ S2 ⟨rfl,M1,K1⟩
 refine qn kn kn (eexit (sqx (bqm (by decide) (sqx (bqx (sqn (er (qp J (qn (kq1 J) kn (eret (fqr J ?_)))))))))))
 rotate_left
 refine qp J (qn (kq2 J) kn (ecT J (er (qp J (qn (kq1 J) kn (eret (sqr (fqr J ?_))))))))
 rotate_left
 simp at h1
 all_goals
  first
  | (rw [VM.step,if_pos h2];exact ⟨rfl,hM,KX.refl _ _⟩)
  | (rw [VM.step,if_neg (by simp [h2]),if_pos (Odt h3)];exact ⟨rfl,M1,K1⟩)
  | (rw [step_go h2 (of_decide_eq_false h3) hx,stepR,if_pos (Odt h4)];exact ⟨rfl,M1,K1⟩)
  | (rw [step_go h2 (of_decide_eq_false h3) hx,stepR,if_neg (of_decide_eq_false h4),if_pos (Odt h5)];exact ⟨rfl,M1,K1⟩)
  | (rw [step_go h2 (of_decide_eq_false h3) hx,stepR,if_neg (of_decide_eq_false h4),if_neg (of_decide_eq_false h5),if_pos (Odt h6)];exact ⟨rfl,b4,K1.trans b5⟩)
  | (rw [step_go h2 (of_decide_eq_false h3) hx,stepR,if_neg (of_decide_eq_false h4),if_neg (of_decide_eq_false h5),if_neg (of_decide_eq_false h6)];exact ⟨rfl,b4,K1.trans b5⟩)
end Go.Sim.W
namespace Go.Sim.W
open Go Go.Sim
theorem clone_i (s:Sg) (l:List Int) (h:l.length ≤ 2 ^ 40):HC p N28_ [ints l] s (fun r s'=>(∃ o,r=[.slice o 1 (l.map I)]) ∧ s'=s):=by
 have e:p.ov N28_=some (cloneOv 1 8):=rfl
 cases l with
 | nil=>exact callOv e (r:=[.slice .full 1 []]) (s':=s) (by simp only [ints,SL,List.map_nil,cloneOv,if_true]) ⟨⟨_,rfl⟩,rfl⟩
 | cons x l=>exact callOv e (r:=[.slice .none 1 ((x :: l).map I)]) (s':=s) (by simp only [ints,SL,List.map_cons,cloneOv];rw [if_pos ⟨trivial,by simp at h ⊢;omega⟩]) ⟨⟨_,rfl⟩,rfl⟩
theorem EM.kl {s s':Sg} (h:EM s s'):KL [] s s':=⟨h.e,Nat.le_of_eq h.mn.symm,fun g _ _=>by rw [h.mu]⟩
theorem cop_l (c:Code) (hr:∀ x ∈ c.ins,x.regs.length ≤ 2 ^ 40) (ht:∀ x ∈ c.ins,x.to.length ≤ 2 ^ 40) (hs:c.ins.length ≤ 2 ^ 40) (o oe:Own) (i:Nat) (hi:i ≤ c.ins.length) {n:Nat} {v:Nat → Bool} {D:List (Nat × List AV)} {S:Sg} {Q:Ex → Fr → Prop} (hlv:Can o v)
 (hX:∀ j n' v' o',Q (.exit 0) ⟨upd (upd (upd (upd (upd (upd ((fun _=>none)) 16 (some (.val (B false)))) 15 (some (.val (I j)))) 14 (some (.val (I (c.ins.map Instr.enc).length)))) 13 (some (.val (SL 7 (c.ins.map Instr.enc))))) 3 (some (.loc 3 0))) 2 (some (.loc 2 0)),upd (upd ((fun _=>none)) 3 (some ([I c.params,.slice o' 7 (c.ins.map Instr.enc),.slice oe 1 (c.entries.map I)]))) 2 (some ([I 0,.slice .full 7 [],.slice .full 1 []])),n',v',D,S⟩):EX (callL p) (.loop F24_l1) ⟨upd (upd (upd (upd (upd ((fun _=>none)) 15 (some (.val (I i)))) 14 (some (.val (I (c.ins.map Instr.enc).length)))) 13 (some (.val (SL 7 (c.ins.map Instr.enc))))) 3 (some (.loc 3 0))) 2 (some (.loc 2 0)),upd (upd ((fun _=>none)) 3 (some ([I c.params,.slice o 7 ((c.ins.take i).map Instr.enc),.slice oe 1 (c.entries.map I)]))) 2 (some ([I 0,.slice .full 7 [],.slice .full 1 []])),n,v,D,S⟩ Q:=by
 refine eloop (er (qp J (qb ?_)))
 rintro (_ | _) h1
 ·refine qn (kq6 J) (kq2 J) (eseq (ecF J (eexit (sqx ?_))))
  have e:c.ins.take i=c.ins:=List.take_of_length_le (by simp at h1;omega)
  rw [e]
  exact hX _ _ _ _
 refine qn (kq6 J) (kq2 J) (eseq (ecT J (eskip (sqn (eseq (eblock (er ?_)))))))
 have hlt:i < c.ins.length:=by simpa using h1
 obtain ⟨x,hx⟩:=get_of_lt hlt
 refine hia (y:=.agg x.cs) rfl rfl (by omega) (by simp [hx,Instr.enc]) rfl (hlda rfl rfl (lc rfl (lc rfl (lc rfl (lc rfl (lc rfl (lc rfl (lc rfl (ln rfl)))))))) (hal (dc (dc (dc (dc (dc (dc (dc (dc dn rfl) rfl) rfl) rfl) rfl) rfl) rfl) rfl) (hstl rfl rfl rfl rfl (Nlb rfl) (lc rfl (lc rfl (lc rfl (lc rfl (lc rfl (lc rfl (lc rfl (ln rfl)))))))) (qk (kc rfl (kc rfl (kc rfl (kc rfl (kc rfl (kc rfl kn)))))) (kc rfl (kc rfl (kc rfl kn))) (sqn (eseq (ereg (qp rfl (qp rfl (hcall rfl rfl rfl (clone_i _ x.regs (hr x (Lmg hx))) ?_))))))))))
 rintro _ _ ⟨⟨o1,rfl⟩,rfl⟩
 refine pq2 J (hcall J J J (clone_i _ x.to (ht x (Lmg hx))) ?_)
 rintro _ _ ⟨⟨o2,rfl⟩,rfl⟩
 refine qp rfl (hstl rfl rfl rfl rfl (Nlb rfl) (lc rfl (lc rfl (lc rfl (lc rfl (lc rfl (lc rfl (lc rfl (ln rfl)))))))) (qp rfl (hstl rfl rfl rfl rfl (Nlb rfl) (lc rfl (lc rfl (lc rfl (lc rfl (lc rfl (lc rfl (lc rfl (ln rfl)))))))) (qk (kc rfl (kc rfl (kc rfl (kc rfl (kc rfl (kc rfl kn)))))) (kc rfl (kc rfl (kc rfl kn))) (sqn (ereg (qp rfl (qp rfl (hlda rfl rfl (lc rfl (lc rfl (lc rfl (lc rfl (lc rfl (lc rfl (lc rfl (ln rfl)))))))) (hbsl (q':=[.agg x.cs]) rfl rfl rfl (hapC rfl rfl hlv (by simp) (by simp;omega) (r:=(c.ins.take (i + 1)).map Instr.enc) (by rw [List.take_add_one,hx];simp [Instr.enc]) ?_)))))))))))
 intro v' hv1 hv2
 refine qp J (hstl J J J J (Nlb J) (lq3 J) (qk (kq5 J) (kq2 J) (bqn (sqn (ereg (hadd J J (i64w (by omega)) (qp J (qk (kq5 J) (kq2 J) ?_))))))))
 exact cop_l c hr ht hs (.tip n) oe (i + 1) (by omega) hv1 hX
termination_by c.ins.length - i
decreasing_by all_goals omega
theorem copied_c (s:Sg) (c:Code) (hr:∀ x ∈ c.ins,x.regs.length ≤ 2 ^ 40) (ht:∀ x ∈ c.ins,x.to.length ≤ 2 ^ 40) (hs:c.ins.length ≤ 2 ^ 40) (he:c.entries.length ≤ 2 ^ 40):HC p N24_ [.agg c.cs] s (fun r s'=>r=[.agg c.cs] ∧ s'=s):=by
 refine hcf J f24_ J ?_
 simp only [chainOf]
 refine er (hbox (dc dn J) J (lq3 J) (hal (dq2 J) (qn (kq2 J) (kq2 J) (eseq (ereg_1 (dq2 J) (pq4 J (hcall J J J (clone_i _ c.entries he) ?_)))))))
 rintro _ _ ⟨⟨oe,rfl⟩,rfl⟩
 refine hbuild J J (lq3 J) (hal (dq8 J) (hstl J J J J (Nlb J) (lq3 J) (qn (kq3 J) (kq3 J) (eseq (er (pq4 J (qn (kq5 J) (kq2 J) (eblock (cop_l c hr ht hs .full oe 0 (by omega) trivial ?_)))))))))
 intro j n' v' o'
 refine bqx (sqn (er (hlda J J (lq3 J) (hstl J J J J (Nlb J) (lq3 J) (qn (kq1 J) (kq1 J) (eret (fqr J ?_)))))))
 exact ⟨rfl,rfl⟩
def chkE (c:Code) (size period fuel:Int) (inputs:List Int):Int:=if codeOk c=true then (if 0 ≤ size ∧ size ≤ 2 ^ 20 ∧ 0 ≤ period ∧ 0 ≤ fuel ∧ fuel ≤ 2 ^ 20 ∧ (inputs.length:Int)=c.params then 0 else 1) else 150
def newM (c:Code) (size period fuel:Int) (inputs:List Int):VM:=⟨c,⟨size,[]⟩,inputs.map fun n=>⟨false,n⟩,0,period,0,fuel,0,0,[],0,false⟩
theorem newM_inv {c:Code} {size period fuel:Int} {inputs:List Int} (h:chkE c size period fuel inputs=0):MInv (newM c size period fuel inputs):=by
 unfold chkE at h
 split at h
 ·rename_i hok
  split at h
  ·rename_i hz
   have hf:=codeF hok
   refine ⟨hok,⟨trivial,by simp [newM],by simp [newM],by simp [newM],hz.1,hz.2.1⟩,?_,?_,⟨Int.le_refl _,?_⟩,⟨Int.le_refl _,hz.2.2.2.1,hz.2.2.2.2.1⟩,⟨Int.le_refl _,show (0:Int) ≤ 0 + 1 by decide,fun _=>Int.le_refl _⟩,⟨show ((0:Nat):Int) ≤ 0 + 1 by decide,fun _=>Int.le_refl _⟩⟩
   ·rw [validW_iff]
    intro w hw hr
    obtain ⟨n,_,rfl⟩:=List.mem_map.1 hw
    cases hr
   ·show (inputs.map _).length ≤ _
    have:=hf.p
    rw [List.length_map]
    omega
   have:=hf.n
   show (0:Int) < c.ins.length
   omega
  cases h
 cases h
structure FR (s:Sg) (im ih:Nat) (S:Sg):Prop where
 kl:KL [] s S
 nim:s.nx ≤ im
 nih:s.nx ≤ ih
 own:∀ g,own [im,ih] S g → s.mn ≤ g
theorem FR.kx {s S S':Sg} {im ih:Nat} (h:FR s im ih S) (k:KX [im,ih] S S'):FR s im ih S':=by
 have h1:=h.nim
 have h2:=h.nih
 refine ⟨⟨⟨Nat.le_trans h.kl.e.nx k.nx,fun i hi=>(k.ob i (Nat.lt_of_lt_of_le hi h.kl.e.nx) (by simp;omega)).trans (h.kl.e.ob i hi),Nat.le_trans h.kl.e.gn k.gn,fun g hg=>(k.gl g (Nat.lt_of_lt_of_le hg h.kl.e.gn)).trans (h.kl.e.gl g hg),k.Q.trans h.kl.e.Q⟩,Nat.le_trans h.kl.mn k.mn,fun g hg hx=>(k.mu g (Nat.lt_of_lt_of_le hg h.kl.mn) fun ho=>?_).trans (h.kl.mu g hg hx)⟩,h1,h2,fun g hg=>?_⟩
 ·have:=h.own g ho
  omega
 rcases k.own g hg with h' | h'
 ·exact h.own g h'
 exact Nat.le_trans h.kl.mn h'
theorem hnew_u (s:Sg) (n:Int):HC p N23_ [I n] s fun r s'=>r=[if 0 ≤ n ∧ n ≤ 2 ^ 20 then .ptr s.nx 0 else .lit (.pointer none),I (if 0 ≤ n ∧ n ≤ 2 ^ 20 then 0 else 1)] ∧ (0 ≤ n ∧ n ≤ 2 ^ 20 → HS s.nx ⟨n,[]⟩ s' ∧ ∀ g,¬ own [s.nx] s' g) ∧ KL [] s s':=by
 refine (hnew_c s n).mono ?_
 rintro r s' ⟨h,k⟩
 by_cases hz:0 ≤ n ∧ n ≤ 2 ^ 20
 ·rw [if_pos hz] at h
  rw [if_pos hz,if_pos hz]
  exact ⟨h.1,fun _=>h.2,k⟩
 rw [if_neg hz] at h
 rw [if_neg hz,if_neg hz]
 exact ⟨h,fun h'=>absurd h' hz,k⟩
theorem init_ms {s S:Sg} {ih:Nat} {c:Code} {size period fuel:Int} {inputs:List Int} (h:HS ih ⟨size,[]⟩ S) (ho:∀ g,¬ own [ih] S g) (F:KL [] s S) (hih:s.nx ≤ ih) :
 MS S.nx ih { newM c size period fuel inputs with regs:=[] } (S.new (.row (VM.row { newM c size period fuel inputs with regs:=[] } ih (.slice .full 2 []) (.slice .full 1 [])))) ∧ FR s S.nx ih (S.new (.row (VM.row { newM c size period fuel inputs with regs:=[] } ih (.slice .full 2 []) (.slice .full 1 [])))):=by
 have hlt:=h.1.lt
 have hno:∀ g,¬ own [ih] (S.new (.row (VM.row { newM c size period fuel inputs with regs:=[] } ih (.slice .full 2 []) (.slice .full 1 [])))) g:=fun g hg=>ho g ((KL.new S _).own hlt hg)
 have hw:∀ sz S,WL sz (.slice .full sz []) 0 [] S:=fun sz S=>⟨by simp,.inl ⟨rfl,rfl⟩⟩
 refine ⟨⟨by omega,Nat.lt_succ_self _,⟨h.1.kl (KL.new _ _) (by simp),h.2⟩,_,_,upd_same _ _ _,hw _ _,hw _ _,by simp [tk],by simp [tk]⟩,⟨F.trans0 (KL.new _ _),F.e.nx,hih,fun g hg=>?_⟩⟩
 rcases own_two.1 hg with hg | hg
 ·have:=(own_im (upd_same _ _ _)).1 hg
  simp [tk] at this
 exact absurd hg (hno g)
def inM (m:VM) (l:List Int):VM:={ m with regs:=l.map fun n=>⟨false,n⟩ }
theorem new_l (s0:Sg) (im ih:Nat) (m:VM) (l:List Int) (hs:l.length ≤ 2 ^ 30) (j:Nat) (hj:j ≤ l.length) {n:Nat} {v:Nat → Bool} {D:List (Nat × List AV)} {S:Sg} {Q:Ex → Fr → Prop} (hM:MS im ih (inM m (l.take j)) S) (hF:FR s0 im ih S)
 (hX:∀ k S',MS im ih (inM m l) S' → FR s0 im ih S' → Q (.exit 0) ⟨upd (upd (upd (upd (upd ((fun _=>none)) 59 (some (.val (B false)))) 58 (some (.val (I k)))) 57 (some (.val (I (l.map I).length)))) 56 (some (.val (ints l)))) 15 (some (.val (.ptr im 0))),(fun _=>none),n,v,D,S'⟩):EX (callL p) (.loop F11_l1) ⟨upd (upd (upd (upd ((fun _=>none)) 58 (some (.val (I j)))) 57 (some (.val (I (l.map I).length)))) 56 (some (.val (ints l)))) 15 (some (.val (.ptr im 0))),(fun _=>none),n,v,D,S⟩ Q:=by
 refine eloop (er (qp J (qb ?_)))
 rintro (_ | _) h1
 ·refine qn (kq5 J) kn (eseq (ecF J (eexit (sqx ?_))))
  have e:l.take j=l:=List.take_of_length_le (by simp at h1;omega)
  rw [e] at hM
  exact hX _ _ hM hF
 refine qn (kq5 J) kn (eseq (ecT J (eskip (sqn (eseq (eblock (er ?_)))))))
 have hlt:j < l.length:=by simpa using h1
 obtain ⟨a,ha⟩:=get_of_lt hlt
 obtain ⟨vr,vo,h1m,h2m,h3m,h4m,h5m⟩:=hM.row
 refine hia (y:=I a) rfl rfl (by omega) (by simp [ha]) rfl (qp rfl (qp rfl (qk (kc rfl (kc rfl (kc rfl (kc rfl (kc rfl kn))))) kn (sqn (ereg (qp rfl (qp rfl (qp rfl (qp rfl (hldo rfl h1m rfl ?_))))))))))
 refine qp J (hbuild J J (lq2 J) (hbsl J J (lq1 J) ?_))
 obtain ⟨v1,S1,w1,w2,w3,w4⟩:=appm_e (by_:=16) h2m (RL.one (sz:=2) (y:=.agg [B false,I a]) (o:=.full) rfl) (by simp [lw,inM];omega)
 have w2:=we_snoc (w:=⟨false,a⟩) w2
 have e:(inM m (l.take j)).regs ++ [⟨false,a⟩]=(l.take (j + 1)).map fun n=>⟨false,n⟩:=by rw [List.take_add_one,ha];simp [inM]
 rw [e] at w2
 refine hwop rfl w1 (qp rfl (qp rfl (hst3 (cs':=VM.row (inM m (l.take (j + 1))) ih v1 vo) rfl rfl ((congrFun w3.ob im).trans h1m) w2.c1 w2.erT w2.tip (by simp [VM.row]) (by rw [w2.c1];rfl) ?_)))
 obtain ⟨M1,K1⟩:=hM.setR h1m w2 w3 w4
 refine qk (kq4 J) kn (bqn (sqn (ereg (hadd J J (i64w (by omega)) (qp J (qk (kq4 J) kn ?_))))))
 exact new_l s0 im ih m l hs (j + 1) (by omega) M1 (hF.kx K1) hX
termination_by l.length - j
decreasing_by all_goals omega
theorem new_c (s:Sg) (c:Code) (z:CodeSz c) (size period fuel:Int) (inputs:List Int) (hs:inputs.length ≤ 2 ^ 30):HC p N11_ [.agg c.cs,I size,I period,I fuel,ints inputs] s (fun r s'=>∃ q,r=[q,I (chkE c size period fuel inputs)] ∧ KL [] s s' ∧ (chkE c size period fuel inputs=0 → ∃ im ih,q=.ptr im 0 ∧ MS im ih (newM c size period fuel inputs) s' ∧ FR s im ih s') ∧ (chkE c size period fuel inputs ≠ 0 → q=.lit (.pointer none))):=by
 refine hcf J f11_ J ?_
 simp only [chainOf]
 refine er (hbox (dq5 J) J (lq3 J) (pq2 J (qn (kq5 J) (kq1 J) (eseq (er (hlda J J (lq3 J) (hcall J J J (check_c0 s c z) ?_)))))))
 rintro _ S1 ⟨rfl,hE⟩
 have hE:=hE.kl
 refine qp J (qn (kq6 J) (kq1 J) (er (pq2 J (qb ?_))))
 rintro (_ | _) h1
 refine qn (kq7 J) (kq1 J) (ecF J (eskip (sqn (er (qp J (hcall J J J (hnew_u _ size) ?_))))))
 rintro _ S2 ⟨rfl,hH,k2⟩
 have k2:=hE.trans0 k2
 refine pq5 J (qn (kq6 J) (kq1 J) (eseq (er (pq2 J (qb ?_)))))
 rintro (_ | _) h2
 refine qp J (qg J (qp J (qg J (qp J (qb ?_)))))
 rintro (_ | _) h3
 refine pq2 J (qg J (qp J (qg J (qp J (qb ?_)))))
 rintro (_ | _) h4
 refine pq2 J (qg J (qp J (qg J (qp J (qb ?_)))))
 rintro (_ | _) h5
 refine pq2 J (qg J (qp J (qg J (qp J (qg J (qp J (qg J (qp J (qg J (qp J (qb ?_)))))))))))
 rintro (_ | _) h6
 refine qp J (qn (kq6 J) (kq1 J) (ecF J (eskip (sqn (er (hlda J J (lq3 J) (hcall J J J (copied_c _ c z.rl z.tl z.il z.el) ?_)))))))
 rintro _ _ ⟨rfl,hq⟩
 obtain rfl:=hq.symm
 have hok:0 ≤ size ∧ size ≤ 2 ^ 20:=by
  by_cases hz:0 ≤ size ∧ size ≤ 2 ^ 20
  ·exact hz
  simp at h2
  omega
 have hcd:codeOk c=true:=by cases hc:codeOk c <;> simp [hc] at h1 ⊢
 have hchk:chkE c size period fuel inputs=0:=by
  rw [chkE,if_pos hcd,if_pos]
  simp at h3 h4 h5 h6
  exact ⟨hok.1,hok.2,h3,h4,h5,h6⟩
 obtain ⟨hH,hO⟩:=hH hok
 obtain ⟨M0,F0⟩:=init_ms (c:=c) (period:=period) (fuel:=fuel) (inputs:=inputs) hH hO k2 hE.e.nx
 rw [if_pos hok]
 refine pq3 J (hbuild J J (lq14 J) (hboxo J (lq14 J) (qp J (qn (kq2 J) kn (eseq (er (pq3 J (qn (kq4 J) kn (eblock (new_l s S2.nx S1.nx (newM c size period fuel inputs) inputs hs 0 (by omega) M0 F0 ?_))))))))))
 intro k S' M1 F1
 refine bqx (sqn (er (pq3 J (qn (kq2 J) kn (eret (fqr J ?_))))))
 rotate_left
 refine qp J (qn (kq6 J) (kq1 J) (ecT J (er (pq2 J (qn (kq2 J) kn (eret (sqr (fqr J ?_))))))))
 rotate_left
 refine pq2 J (zq5 J (qp J (qn (kq6 J) (kq1 J) (ecT J (er (pq2 J (qn (kq2 J) kn (eret (sqr (fqr J ?_))))))))))
 rotate_left
 refine pq2 J (zq2 J (pq2 J (zq5 J (qp J (qn (kq6 J) (kq1 J) (ecT J (er (pq2 J (qn (kq2 J) kn (eret (sqr (fqr J ?_))))))))))))
 rotate_left
 refine pq2 J (zq2 J (pq2 J (zq2 J (pq2 J (zq5 J (qp J (qn (kq6 J) (kq1 J) (ecT J (er (pq2 J (qk (kq2 J) kn ?_)))))))))))
 refine sqn (eret (sqr (fqr J ?_)))
 rotate_left
 refine qp J (zq2 J (pq2 J (zq2 J (pq2 J (zq2 J (pq2 J (zq5 J (qp J (qn (kq6 J) (kq1 J) (ecT J (er ?_)))))))))))
 refine pq2 J (qn (kq2 J) kn (eret (sqr (fqr J ?_))))
 rotate_left
 refine qn (kq7 J) (kq1 J) (ecT J (er (pq3 J (qn (kq2 J) kn (eret (sqr (fqr J ?_)))))))
 rotate_left
 all_goals
  first
  | exact ⟨_,by rw [hchk];rfl,F1.kl,fun _=>⟨_,_,rfl,M1,F1⟩,fun h=>absurd hchk h⟩
  | (have e:chkE c size period fuel inputs=150:=by
      cases hc:codeOk c
      ·rw [chkE,if_neg (by simp [hc])]
      simp [hc] at h1
     have e2:(if codeOk c=true then (0:Int) else 150)=150:=by
      cases hc:codeOk c
      ·rfl
      simp [hc] at h1
     exact ⟨_,by rw [e,e2];rfl,hE,fun h=>(by rw [e] at h;cases h),fun _=>rfl⟩)
  | (have hcd:codeOk c=true:=by cases hc:codeOk c <;> simp [hc] at h1 ⊢
     have e:chkE c size period fuel inputs=1:=by
      rw [chkE,if_pos hcd,if_neg]
      intro hz
      have hz1:0 ≤ size ∧ size ≤ 2 ^ 20:=⟨hz.1,hz.2.1⟩
      first
      | (exfalso;rw [if_pos hz1] at h2;exact absurd h2 (by decide))
      | (simp at h3;omega)
      | (simp at h4;omega)
      | (simp at h5;omega)
      | (simp at h6;omega)
     exact ⟨_,by rw [e];rfl,k2,fun h=>(by rw [e] at h;cases h),fun _=>rfl⟩)
theorem eretz_loc {c:Caller} {E:Nat → Option TV} {L:Nat → Option (List AV)} {n:Nat} {v:Nat → Bool} {D:List (Nat × List AV)} {S S':Sg} {Q:Ex → Fr → Prop} {k d:Nat} {cs ds:List AV} (h1:L d=some cs) (h2:frzDL (frzD k) S cs=some (ds,S'))
 (h:Q .ret ⟨E,upd L d (some ds),n,v,D,S'⟩):EX c (.retz k d) ⟨E,L,n,v,D,S⟩ Q:=eretz (by simp only [retzF,h1,h2];rfl) h
theorem FR.frz {s S:Sg} {im ih:Nat} {m:VM} {vr vo:AV} {mu':Nat → Option (List AV)} (h:FR s im ih S) (h1:S.ob im=some (.row (m.row ih vr vo))) (h2:∀ g,g ∉ tk vo → mu' g=S.mu g):KL [] s { S with mu:=mu' } :=
 ⟨⟨h.kl.e.nx,h.kl.e.ob,h.kl.e.gn,h.kl.e.gl,h.kl.e.Q⟩,h.kl.mn,fun g hg hx=>(h2 g fun ho=>by have:=h.own g (own_two.2 (.inl ((own_im h1).2 (by simp [ho]))));omega).trans (h.kl.mu g hg hx)⟩
def Run.cs (r:Run):List AV:=[I r.fin,I r.val,ints r.outs,I r.steps]
def VM.out (m:VM):Run:=⟨m.fin,m.val,m.outs,m.steps⟩
def runN:Nat → VM → VM
 | 0,m=>m
 | k + 1,m=>if m.step.2=true then runN k m.step.1 else m.step.1
def runM (m:VM):VM:=runN ((m.fuel - m.steps).toNat + 1) m
theorem step_true {m:VM} (hI:MInv m) (h:m.step.2=true):m.steps < m.fuel ∧ m.step.1.steps=m.steps + 1 ∧ m.step.1.fuel=m.fuel:=by
 cases ho:m.over with
 | true=>rw [VM.step,if_pos ho] at h;cases h
 | false =>
   by_cases hs:m.steps=m.fuel
   ·rw [VM.step,if_neg (by simp [ho]),if_pos hs] at h
    cases h
   obtain ⟨x,hx⟩:=at_some hI
   have k:=exec_inv hI hx
   have e1:=k.steps
   have e2:=k.fuel
   rw [step_go ho hs hx] at h ⊢
   refine ⟨steps_lt hI hs,?_⟩
   unfold stepR at h ⊢
   split
   ·rename_i e;rw [if_pos e] at h;cases h
   rename_i e;rw [if_neg e] at h
   split
   ·rename_i e';rw [if_pos e'] at h;cases h
   split
   ·exact ⟨by rw [← e1],e2⟩
   exact ⟨by rw [← e1],e2⟩
theorem unfl_I (l:List Int):unfl 1 l.length (l.map I)=l.map I:=by
 induction l with
 | nil=>rfl
 | cons a l ih=>simp only [List.length_cons,List.map_cons,unfl,List.drop_succ_cons,List.drop_zero,ih]
theorem flat_I (l:List Int):flat (l.map I)=l.map I:=by
 induction l with
 | nil=>rfl
 | cons a l ih =>
   have:flat ((a :: l).map I)=[I a] ++ flat (l.map I):=rfl
   rw [this,ih]
   rfl
theorem frzDL0' (S:Sg) (cs:List AV):frzDL (frzD 0) S cs=some (cs,S):=by
 induction cs with
 | nil=>rfl
 | cons c cs ih =>
   have e:frzD 0 S c=some (c,S):=by simp only [frzD]
   rw [frzDL,e]
   simp only [Obs,ih]
theorem nts_I (l:List Int):AV.nts (l.map I)=true:=by
 induction l with
 | nil=>rfl
 | cons a l ih =>
   simp only [List.map_cons,AV.nts,ih,Bool.and_true]
   rfl
theorem frz_run {S:Sg} {vo:AV} {l:List Int} {a b c:Int} (h:WE 1 vo (l.map I) S):∃ o m,frzDL (frzD 1) S [I a,I b,vo,I c]=some ([I a,I b,.slice o 1 (l.map I),I c],{ S with mu:=m }) ∧ ∀ g,g ∉ tk vo → m g=S.mu g:=by
 rcases h.2 with ⟨h0,rfl⟩ | ⟨g,rfl,h1,h2⟩
 ·obtain rfl:l=[]:=List.length_eq_zero_iff.1 (by simpa using h0)
  exact ⟨.full,S.mu,rfl,fun _ _=>rfl⟩
 refine ⟨.none,upd (upd S.mu g (some (l.map I))) g none,?_,fun g' hg=>?_⟩
 ·rw [flat_I] at h1
  have e0:∀ (S:Sg) x,frzD 1 S (I x)=some (I x,S):=fun S x=>by simp only [I,frzD]
  have e1:frzD 1 S (.ms g 0 (l.map I).length 1)=some (.slice .none 1 (l.map I),{ S with mu:=upd (upd S.mu g (some (l.map I))) g none }):=by
   rw [frzD]
   simp only [h1,Obs,frzDL0']
   rw [if_pos ⟨trivial,nts_I l⟩]
   simp only [frzOf,upd_same,Obs,true_and]
   rw [if_pos (by decide),if_pos (by simp)]
   simp only [Nat.mul_one,List.drop_zero,List.length_map]
   rw [List.take_of_length_le (by simp),unfl_I]
  simp only [frzDL,e0,e1,Obs]
 have hg:g' ≠ g:=by simpa [tk] using hg
 rw [upd_ne _ _ hg,upd_ne _ _ hg]
theorem run_l {E0:Nat → Option TV} (s0:Sg) (im ih:Nat) (k:Nat) (m:VM) (hk:(m.fuel - m.steps).toNat < k) {n:Nat} {v:Nat → Bool} {D:List (Nat × List AV)} {S:Sg} {Q:Ex → Fr → Prop} (hM:MS im ih m S) (hI:MInv m) (hF:FR s0 im ih S)
 (hX:∀ S',MS im ih (runN k m) S' → FR s0 im ih S' → Q (.exit 0) ⟨upd (upd (upd ((fun _=>none)) 28 (some (.val (B false)))) 12 (some (.val (.ptr im 0)))) 10 (some (.loc 10 0)),upd ((fun _=>none)) 10 (some ([I 0,I 0,.slice .full 1 [],I 0])),n,v,D,S'⟩):EX (callL p) (.loop F8_l1) ⟨upd (upd (E0) 12 (some (.val (.ptr im 0)))) 10 (some (.loc 10 0)),upd ((fun _=>none)) 10 (some ([I 0,I 0,.slice .full 1 [],I 0])),n,v,D,S⟩ Q:=by
 refine eloop (eseq (er (qp J (hcall J J J (step_c _ im ih m hM hI) ?_))))
 rintro _ S1 ⟨rfl,M1,K1⟩
 obtain ⟨k,rfl⟩:∃ k',k=k' + 1:=⟨k - 1,by omega⟩
 refine qb ?_
 rintro (_ | _) h1
 ·refine qn (kq3 J) (kq1 J) (ecF J (eexit (sqx ?_)))
  exact hX _ (by rw [runN,if_neg (by simp [h1])];exact M1) (hF.kx K1)
 obtain ⟨t1,t2,t3⟩:=step_true hI h1
 refine qn (kq3 J) (kq1 J) (ecT J (eskip (sqn (eblock (eskip (bqn ?_))))))
 exact run_l s0 im ih k m.step.1 (by omega) M1 (step_inv hI) (hF.kx K1) (fun S' c d=>hX S' (by rw [runN,if_pos h1];exact c) d)
termination_by k
decreasing_by all_goals omega
theorem run_c (s:Sg) (c:Code) (z:CodeSz c) (size period fuel:Int) (inputs:List Int) (hs:inputs.length ≤ 2 ^ 30):HC p N8_ [.agg c.cs,I size,I period,I fuel,ints inputs] s (fun r s'=>r=[.agg (if chkE c size period fuel inputs=0 then (runM (newM c size period fuel inputs)).out else ⟨0,0,[],0⟩:Run).cs,I (chkE c size period fuel inputs)] ∧ KL [] s s'):=by
 refine hcf J f8_ J ?_
 simp only [chainOf]
 refine er (hbox (dq5 J) J (lq3 J) (hal (dq6 J) (qp J (qn (kq6 J) (kq2 J) (er (hlda J J (lq3 J) (pq4 J (hcall J J J (new_c s c z size period fuel inputs hs) ?_))))))))
 rintro _ S1 ⟨q,rfl,k1,q1,q2⟩
 refine pq5 J (qn (kq3 J) (kq1 J) (eseq (er (pq2 J (qb ?_)))))
 rintro (_ | _) h1
 ·have hc:chkE c size period fuel inputs=0:=by simpa using h1
  obtain ⟨im,ih,rfl,M0,F0⟩:=q1 hc
  refine qn (kq4 J) (kq1 J) (ecF J (eskip (sqn (eseq (eblock (run_l s im ih _ (newM c size period fuel inputs) (Nat.lt_succ_self _) M0 (newM_inv hc) F0 ?_))))))
  intro S' M1 F1
  refine bqx (sqn (er (pq3 J ?_)))
  obtain ⟨vr,vo,h1m,h2m,h3m,_⟩:=M1.row
  refine hldo (y:=.agg [I (runM (newM c size period fuel inputs)).fin,I (runM (newM c size period fuel inputs)).val,vo,I (runM (newM c size period fuel inputs)).steps]) rfl h1m rfl ?_
  refine hstl J J J J (Nlb J) (lq4 J) (qp J (qn (kq2 J) (kq1 J) ?_))
  first
  | (obtain ⟨o,mu1,w1,w2⟩:=frz_run (a:=(runM (newM c size period fuel inputs)).fin) (b:=(runM (newM c size period fuel inputs)).val) (c:=(runM (newM c size period fuel inputs)).steps) h3m
     refine eretz_loc J w1 ?_
     have K1:KL [] s { S' with mu:=mu1 }:=F1.frz h1m w2)
  | refine eretz_loc rfl (ds:=[I 0,I 0,.slice .full 1 [],I 0]) (S':=S1) (by simp only [frzDL,frzD,I,Obs]) ?_
  refine fqr J ?_
  first
  | exact ⟨by rw [if_pos hc,hc];rfl,K1⟩
  | (have hc:¬ chkE c size period fuel inputs=0:=by simpa using h1
     exact ⟨by rw [if_neg hc];rfl,k1⟩)
 refine qn (kq4 J) (kq1 J) (ecT J (er (hbuild J J (lq4 J) (qp J (hstl J J J J (Nlb J) (lq4 J) (qp J (qn (kq2 J) (kq1 J) ?_)))))))
 first
 | (obtain ⟨o,mu1,w1,w2⟩:=frz_run (a:=(runM (newM c size period fuel inputs)).fin) (b:=(runM (newM c size period fuel inputs)).val) (c:=(runM (newM c size period fuel inputs)).steps) h3m
    refine eretz_loc J w1 ?_
    have K1:KL [] s { S' with mu:=mu1 }:=F1.frz h1m w2)
 | refine eretz_loc rfl (ds:=[I 0,I 0,.slice .full 1 [],I 0]) (S':=S1) (by simp only [frzDL,frzD,I,Obs]) ?_
 refine sqr (fqr J ?_)
 first
 | exact ⟨by rw [if_pos hc,hc];rfl,K1⟩
 | (have hc:¬ chkE c size period fuel inputs=0:=by simpa using h1
    exact ⟨by rw [if_neg hc];rfl,k1⟩)
end Go.Sim.W
namespace Go.Sim.W
open Go Go.Sim
theorem same_l (a b:List Int) (e:a.length=b.length) (i:Nat) (hi:i ≤ a.length) (hs:a.length ≤ 2 ^ 40) {n:Nat} {v:Nat → Bool} {D:List (Nat × List AV)} {S:Sg} {Q:Ex → Fr → Prop}
 (hX:∀ j,a.drop i=b.drop i → Q (.exit 0) ⟨upd (upd (upd (upd (upd ((fun _=>none)) 14 (some (.val (B false)))) 13 (some (.val (I j)))) 12 (some (.val (I (a.map I).length)))) 1 (some (.val (ints b)))) 0 (some (.val (ints a))),(fun _=>none),n,v,D,S⟩) (hR:a.drop i ≠ b.drop i → Q .ret ⟨upd ((fun _=>none)) 4 (some (.val (B false))),(fun _=>none),n,v,D,S⟩):EX (callL p) (.loop F10_l1) ⟨upd (upd (upd (upd ((fun _=>none)) 13 (some (.val (I i)))) 12 (some (.val (I (a.map I).length)))) 1 (some (.val (ints b)))) 0 (some (.val (ints a))),(fun _=>none),n,v,D,S⟩ Q:=by
 refine eloop (er (qp J (qb ?_)))
 rintro (_ | _) h1
 ·refine qn (kq5 J) kn (eseq (ecF J (eexit (sqx ?_))))
  exact hX _ (by rw [List.drop_eq_nil_of_le (by simp at h1;omega),List.drop_eq_nil_of_le (by simp at h1;omega)])
 refine qn (kq5 J) kn (eseq (ecT J (eskip (sqn (eseq (eblock (er (pq2 J (qn (kq5 J) kn (er (pq2 J ?_)))))))))))
 have hlt:i < a.length:=by simpa using h1
 obtain ⟨x,hx⟩:=get_of_lt hlt
 obtain ⟨y,hy⟩:=get_of_lt (l:=b) (i:=i) (by omega)
 have hd:=drop_cons hx
 have hd2:=drop_cons hy
 refine hia (y:=I x) rfl rfl (by omega) (by simp [hx]) rfl (qp rfl (qp rfl (qp rfl (hia (y:=I y) rfl rfl (by omega) (by simp [hy]) rfl (qp rfl (qp rfl (qb ?_)))))))
 rintro (_ | _) h2
 ·refine qn (kq5 J) kn (ecF J (eskip (bqn (sqn (ereg (hadd J J (i64w (by omega)) (qp J (qk (kq4 J) kn ?_))))))))
  have hxy:x=y:=by simpa using h2
  subst hxy
  exact same_l a b e (i + 1) (by omega) hs (fun j h=>hX j (by rw [hd,hd2,h])) (fun h=>hR (by rw [hd,hd2];intro q;exact h (List.cons.inj q).2))
 refine qn (kq5 J) kn (ecT J (er (qp J (qn (kq1 J) kn (eret (bqr (sqr ?_)))))))
 exact hR (by rw [hd,hd2];intro q;simp at h2;exact h2 (List.cons.inj q).1)
termination_by a.length - i
decreasing_by all_goals omega
theorem same15_c (s:Sg) (a b:List Int) (ha:a.length ≤ 2 ^ 40):HC p N10_ [ints a,ints b] s (fun r s'=>r=[B (decide (a=b))] ∧ s'=s):=by
 refine hcf J f10_ J ?_
 simp only [chainOf]
 refine er (qp J (qn (kq2 J) kn (eseq (er (pq5 J (qb ?_))))))
 rintro (_ | _) h1
 refine qn (kq3 J) kn (ecF J (eskip (sqn (eseq (er (pq3 J (qn (kq4 J) kn (eblock ?_))))))))
 refine same_l a b (by simp at h1;omega) 0 (by omega) ha ?_ ?_
 intro j q
 rw [List.drop_zero,List.drop_zero] at q
 refine bqx (sqn (er (qp J (qn (kq1 J) kn (eret (fqr J ?_))))))
 rotate_left
 intro q
 rw [List.drop_zero,List.drop_zero] at q
 refine bqr (sqr (fqr J ?_))
 rotate_left
 refine qn (kq3 J) kn (ecT J (er (qp J (qn (kq1 J) kn (eret (sqr (fqr J ?_)))))))
 rotate_left
 all_goals
  first
  | exact ⟨by rw [decide_eq_true q];rfl,rfl⟩
  | exact ⟨by rw [decide_eq_false q];rfl,rfl⟩
  | exact ⟨by rw [decide_eq_false (by intro q;subst q;simp at h1)];rfl,rfl⟩
def sameR (a b:Run):Bool:=decide (a.fin=b.fin) && decide (a.val=b.val) && decide (a.steps=b.steps) && decide (a.outs=b.outs)
def lookedF (c:Code) (fuel:Int) (inputs:List Int):Bool:=(decide ((c.ins.length:Int) ≤ 200) || !codeOk c) && (decide (fuel ≤ 600) || decide (fuel > 1048576)) && decide ((inputs.length:Int) ≤ 200)
theorem Bc (b c:Bool) (h:b=c):[(.lit (.bool b):AV)]=[B c]:=by rw [h]
theorem same18_c (s:Sg) (a b:Run) (ha:a.outs.length ≤ 2 ^ 40):HC p N9_ [.agg a.cs,.agg b.cs] s (fun r s'=>r=[B (sameR a b)] ∧ s'=s):=by
 refine hcf J f9_ J ?_
 simp only [chainOf]
 refine er (hbox (dq2 J) J (lq4 J) (hbox (dq3 J) J (lq4 J) (qp J (qn (kq2 J) (kq2 J) (er (pq5 J (qb ?_)))))))
 rintro (_ | _) h1
 ·refine qp J (zq5 J (pq2 J (zq5 J (pq2 J (zq5 J (pq2 J (qn (kq1 J) kn ?_)))))))
  refine eret (fqr J ?_)
  exact ⟨Bc _ _ (by simp_all [sameR]),rfl⟩
 refine qp J (qg J (qp J (qg J (qp J (qg J (qp J (qg J (qp J (qg J (qp J (qb ?_)))))))))))
 rintro (_ | _) h2
 ·refine pq2 J (zq5 J (pq2 J (zq5 J (pq2 J (qn (kq1 J) kn (eret (fqr J ?_)))))))
  exact ⟨Bc _ _ (by simp_all [sameR]),rfl⟩
 refine pq2 J (qg J (qp J (qg J (qp J (qg J (qp J (qg J (qp J (qg J (qp J (qb ?_)))))))))))
 rintro (_ | _) h3
 ·refine pq2 J (zq5 J (pq2 J (qn (kq1 J) kn (eret (fqr J ?_)))))
  exact ⟨Bc _ _ (by simp_all [sameR]),rfl⟩
 refine pq2 J (qg J (qp J (qg J (qp J (qg J (qp J (qg J (qp J (qg J (hcall J J J (same15_c _ a.outs b.outs ha) ?_))))))))))
 rintro _ _ ⟨rfl,rfl⟩
 refine pq2 J (qn (kq1 J) kn (eret (fqr J ?_)))
 exact ⟨Bc _ _ (by simp_all [sameR]),rfl⟩
theorem chk_c (s:Sg) (hQ:QOK s) (c:Code) (z:CodeSz c) (size period fuel:Int) (inputs:List Int) (hs:inputs.length ≤ 2 ^ 30):HC p N6_ [.agg c.cs,I size,I period,I fuel,ints inputs] s (fun r s'=>r=[I (chkE c size period fuel inputs)] ∧ s'=s):=by
 refine hcf J f6_ J ?_
 simp only [chainOf]
 refine er (hbox (dq5 J) J (lq3 J) (qp J (qn (kq5 J) (kq1 J) (eseq (er (hlda J J (lq3 J) (hcall J J J (is_c s hQ c z) ?_)))))))
 rintro _ _ ⟨rfl,rfl⟩
 refine qb ?_
 rintro (_ | _) h1
 refine qp J (qn (kq6 J) (kq1 J) (ecT J (er (qp J (qn (kq1 J) kn (eret (sqr (fqr J ?_))))))))
 rotate_left
 refine qp J (qn (kq6 J) (kq1 J) (ecF J (eskip (sqn (eseq (er (pq2 J (qb ?_))))))))
 rintro (_ | _) h2
 refine qp J (qg J (qp J (qg J (qp J (qb ?_)))))
 rintro (_ | _) h3
 refine pq2 J (qg J (qp J (qg J (qp J (qb ?_)))))
 rintro (_ | _) h4
 refine pq2 J (qg J (qp J (qg J (qp J (qb ?_)))))
 rintro (_ | _) h5
 refine pq2 J (qg J (qp J (qg J (qp J (qb ?_)))))
 rintro (_ | _) h6
 refine pq2 J (qg J (qp J (qg J (qp J (qg J (qp J (qg J (qp J (qg J (qp J (qb ?_)))))))))))
 rintro (_ | _) h7
 refine qp J (qn (kq1 J) kn (ecF J (eskip (sqn (er (qp J (qn (kq1 J) kn (eret (fqr J ?_)))))))))
 rotate_left
 refine qp J (qn (kq1 J) kn (ecT J (er (qp J (qn (kq1 J) kn (eret (sqr (fqr J ?_))))))))
 rotate_left
 refine pq2 J (zq5 J (qp J (qn (kq1 J) kn (ecT J (er (qp J (qn (kq1 J) kn (eret (sqr (fqr J ?_))))))))))
 rotate_left
 refine pq2 J (zq2 J (pq2 J (zq5 J (qp J (qn (kq1 J) kn (ecT J (er (qp J (qn (kq1 J) kn (eret (sqr (fqr J ?_))))))))))))
 rotate_left
 refine pq2 J (zq2 J (pq2 J (zq2 J (pq2 J (zq5 J (qp J (qn (kq1 J) kn (ecT J (er (qp J (qn (kq1 J) kn ?_)))))))))))
 refine eret (sqr (fqr J ?_))
 rotate_left
 refine pq2 J (zq2 J (pq2 J (zq2 J (pq2 J (zq2 J (pq2 J (zq5 J (qp J (qn (kq1 J) kn (ecT J (eseq ?_)))))))))))
 refine ereg (qp J (qn (kq1 J) kn (eret (sqr (fqr J ?_)))))
 rotate_left
 refine qp J (zq2 J (pq2 J (zq2 J (pq2 J (zq2 J (pq2 J (zq2 J (pq2 J (zq5 J (qp J (qk (kq1 J) kn ?_)))))))))))
 refine sqn (ecT J (er (qp J (qn (kq1 J) kn (eret (sqr (fqr J ?_)))))))
 rotate_left
 all_goals
  first
  | exact ⟨by rw [chkE,if_neg (by simp_all)];rfl,rfl⟩
  | exact ⟨by rw [chkE,if_pos (by simp_all),if_neg (by simp at *;omega)];rfl,rfl⟩
  | exact ⟨by rw [chkE,if_pos (by simp_all),if_pos (by simp at *;omega)];rfl,rfl⟩
theorem looked_c (s:Sg) (hQ:QOK s) (c:Code) (z:CodeSz c) (fuel:Int) (inputs:List Int):HC p N5_ [.agg c.cs,I fuel,ints inputs] s (fun r s'=>r=[B (lookedF c fuel inputs)] ∧ s'=s):=by
 refine hcf J f5_ J ?_
 simp only [chainOf]
 refine er (hbox (dq3 J) J (lq3 J) (qp J (qn (kq3 J) (kq1 J) (er (pq4 J (qb ?_))))))
 rintro (_ | _) h1
 refine qp J (qg J (hlda J J (lq3 J) (qg J (hcall J J J (is_c s hQ c z) ?_))))
 rintro _ _ ⟨rfl,rfl⟩
 refine qb ?_
 rintro (_ | _) h2
 refine qg J (pq3 J (qg J (qp J (qg J (qp J (qb ?_))))))
 rintro (_ | _) h3
 refine qg J (qp J (qg J (qp J (qg J (qp J (qb ?_))))))
 rintro (_ | _) h4
 refine qg J (pq3 J (zq3 J (pq2 J (qn (kq1 J) kn (eret (fqr J ?_))))))
 exact ⟨Bc _ _ (by simp_all [lookedF] <;> omega),rfl⟩
 refine qg J (pq3 J (qg J (qp J (qg J (qp J (qg J (pq3 J (qn (kq1 J) kn (eret (fqr J ?_))))))))))
 exact ⟨Bc _ _ (by simp_all [lookedF] <;> omega),rfl⟩
 rotate_left
 refine qg J (pq3 J (zq6 J (pq2 J (zq3 J (pq2 J (qn (kq1 J) kn (eret (fqr J ?_))))))))
 exact ⟨Bc _ _ (by simp_all [lookedF] <;> omega),rfl⟩
 refine qp J (zq3 J (pq2 J (qg J (qp J (qg J (qp J (qb ?_)))))))
 rintro (_ | _) h5
 refine qg J (qp J (qg J (qp J (qg J (qp J (qb ?_))))))
 rintro (_ | _) h6
 refine qg J (pq3 J (zq3 J (pq2 J (qn (kq1 J) kn (eret (fqr J ?_))))))
 exact ⟨Bc _ _ (by simp_all [lookedF] <;> omega),rfl⟩
 refine qg J (pq3 J (qg J (qp J (qg J (qp J (qg J (pq3 J (qn (kq1 J) kn (eret (fqr J ?_))))))))))
 exact ⟨Bc _ _ (by simp_all [lookedF] <;> omega),rfl⟩
 rotate_left
 all_goals
  refine qg J (qp J (zq2 J (qg J (pq3 J (qg J (qp J (qg J (qp J (qg J (pq3 J (qn (kq1 J) kn (eret (fqr J ?_)))))))))))))
  exact ⟨Bc _ _ (by simp_all [lookedF] <;> omega),rfl⟩
end Go.Sim.W
namespace Go.Sim.W
open Go Go.Sim
def oneC:Code:=⟨1,[⟨0,1,0,0,1,[],[]⟩,⟨2,2,0,1,0,[],[]⟩,⟨10,2,0,0,0,[],[]⟩],[]⟩
def twoC:Code:=⟨0,[⟨3,0,0,0,0,[],[]⟩,⟨7,0,0,0,0,[0],[]⟩],[]⟩
def zeroC:Code:=⟨0,[],[]⟩
theorem one_sz:CodeSz oneC:=⟨by simp [oneC],by simp [oneC],by simp [oneC],by simp [oneC]⟩
theorem two_sz:CodeSz twoC:=⟨by simp [twoC],by simp [twoC],by simp [twoC],by simp [twoC]⟩
theorem zero_sz:CodeSz zeroC:=⟨by simp [zeroC],by simp [zeroC],by simp [zeroC],by simp [zeroC]⟩
theorem one_ck:chkE oneC 0 0 100 [4]=0:=by kernel_rfl
theorem two_ck2:chkE twoC 2 0 50 []=0:=by kernel_rfl
theorem two_ck1:chkE twoC 1 0 50 []=0:=by kernel_rfl
theorem zero_ck:chkE zeroC 0 0 0 []=150:=by kernel_rfl
theorem one_run:(runM (newM oneC 0 0 100 [4])).out=⟨0,5,[],3⟩:=by kernel_rfl
theorem two_run2:(runM (newM twoC 2 0 50 [])).out=⟨1,0,[],50⟩:=by kernel_rfl
theorem two_run1:(runM (newM twoC 1 0 50 [])).out=⟨3,0,[],2⟩:=by kernel_rfl
theorem one_go:(newM oneC 0 0 100 [4]).step.2=true:=by kernel_rfl
theorem one_at:(newM oneC 0 0 100 [4]).step.1.at_=1:=by kernel_rfl
theorem onec_c (s:Sg):HC p N19_ [] s (fun r s'=>r=[.agg oneC.cs] ∧ s'=s):=by
 refine hcf J f19_ J ?_
 simp only [chainOf]
 refine er (hal dn (qn (kq1 J) (kq1 J) (er (hbuild J J (lq7 J) (hbuild J J (lq7 J) (hbuild J J (lq7 J) (hbsl J J (lq3 J) (hbuild J J (lq3 J) (hstl J J J J (Nlb J) (lq3 J) (qn (kq1 J) (kq1 J) (eret (fqr J ?_))))))))))))
 exact ⟨rfl,rfl⟩
theorem twoc_c (s:Sg):HC p N20_ [] s (fun r s'=>r=[.agg twoC.cs] ∧ s'=s):=by
 refine hcf J f20_ J ?_
 simp only [chainOf]
 refine er (hal dn (qn (kq1 J) (kq1 J) (er (hbuild J J (lq7 J) (hbsl J J (lq1 J) (hbuild J J (lq7 J) (hbsl J J (lq2 J) (hbuild J J (lq3 J) (hstl J J J J (Nlb J) (lq3 J) (qn (kq1 J) (kq1 J) (eret (fqr J ?_))))))))))))
 exact ⟨rfl,rfl⟩
theorem mat_c (s:Sg) (im ih:Nat) (m:VM) (hM:MS im ih m s):HC p N21_ [.ptr im 0] s (fun r s'=>r=[I m.at_] ∧ s'=s):=by
 obtain ⟨vr,vo,h1m,_⟩:=hM.row
 refine hcf J f21_ J ?_
 simp only [chainOf]
 refine er (qp J (qn (kq1 J) kn (eseq (er (qp J (hpeq J J J J J (qb ?_)))))))
 rintro (_ | _) h1
 ·refine qn (kq2 J) kn (ecF J (eskip (sqn (er (pq3 J (hldo J h1m J ?_))))))
  refine qp J (qn (kq1 J) kn (eret (fqr J ?_)))
  exact ⟨rfl,rfl⟩
 simp at h1
theorem awake_c (s:Sg):HC p N7_ [] s (fun r s'=>r=[B true] ∧ KL [] s s'):=by
 refine hcf J f7_ J ?_
 simp only [chainOf]
 refine er (qp J (qn kn kn (er (hcall J J J (onec_c _) ?_))))
 rintro _ _ ⟨rfl,rfl⟩
 refine hbsl J J (lq1 J) (hcall J J J (run_c _ oneC one_sz 0 0 100 [4] (by simp)) ?_)
 rintro _ S1 ⟨rfl,k1⟩
 rw [if_pos one_ck,one_ck,one_run]
 refine pq3 J (hal (dq6 J) (hstl J J J J (Nlb J) (lq4 J) (qp J (qn (kq2 J) (kq1 J) (er (hcall J J J (twoc_c _) ?_))))))
 rintro _ _ ⟨rfl,rfl⟩
 refine hcall J J J (run_c _ twoC two_sz 2 0 50 [] (by simp)) ?_
 rintro _ S2 ⟨rfl,k2⟩
 have k2:=k1.trans0 k2
 rw [if_pos two_ck2,two_ck2,two_run2]
 refine pq3 J (hal (dq7 J) (hstl J J J J (Nlb J) (lq4 J) (qp J (qn (kq4 J) (kq2 J) (er (hcall J J J (twoc_c _) ?_))))))
 rintro _ _ ⟨rfl,rfl⟩
 refine hcall J J J (run_c _ twoC two_sz 1 0 50 [] (by simp)) ?_
 rintro _ S3 ⟨rfl,k3⟩
 have k3:=k2.trans0 k3
 rw [if_pos two_ck1,two_ck1,two_run1]
 refine pq3 J (hal (dq9 J) (hstl J J J J (Nlb J) (lq4 J) (qp J (qn (kq6 J) (kq3 J) (er (hcall J J J (onec_c _) ?_))))))
 rintro _ _ ⟨rfl,rfl⟩
 refine hbsl J J (lq1 J) (hcall J J J (new_c _ oneC one_sz 0 0 100 [4] (by simp)) ?_)
 rintro _ S4 ⟨q4,rfl,k4,q5,_⟩
 have k4:=k3.trans0 k4
 obtain ⟨im,ih,rfl,M4,F4⟩:=q5 one_ck
 rw [one_ck]
 refine pq5 J (qn (kq8 J) (kq3 J) (er (hbuild J J (lq3 J) (hcall J J J (new_c _ zeroC zero_sz 0 0 0 [] (by simp)) ?_))))
 rintro _ S5 ⟨q6,rfl,k5,_,_⟩
 have M5:=M4.kl k5
 have F5:=F4.kx (k5.kx M4.lth)
 have k5:=k4.trans0 k5
 rw [zero_ck]
 refine pq5 J (qn (kq9 J) (kq3 J) (er (pq2 J (qb ?_))))
 rintro (_ | _) h1
 ·exact absurd h1 (by decide)
 refine qp J (qg J (hlda J J (lq4 J) (qg J (hbuild J J (lq4 J) (qg J (hcall J J J (same18_c _ ⟨0,5,[],3⟩ ⟨0,5,[],3⟩ (by simp)) ?_))))))
 rintro _ _ ⟨rfl,rfl⟩
 refine qb ?_
 rintro (_ | _) h2
 ·exact absurd h2 (by decide)
 refine pq2 J (qg J (qp J (qg J (qp J (qb ?_)))))
 rintro (_ | _) h3
 ·exact absurd h3 (by decide)
 refine pq2 J (qg J (qp J (qg J (qp J (qg J (qp J (qb ?_)))))))
 rintro (_ | _) h4
 ·exact absurd h4 (by decide)
 refine pq2 J (qg J (qp J (qg J (qp J (qg J (qp J (qb ?_)))))))
 rintro (_ | _) h5
 ·exact absurd h5 (by decide)
 refine pq2 J (qg J (qp J (qg J (qp J (qb ?_)))))
 rintro (_ | _) h6
 ·exact absurd h6 (by decide)
 refine pq2 J (qg J (qp J (qg J (qp J (qg J (qp J (qb ?_)))))))
 rintro (_ | _) h7
 ·exact absurd h7 (by decide)
 refine pq2 J (qg J (qp J (qg J (qp J (qg J (qp J (qb ?_)))))))
 rintro (_ | _) h8
 ·exact absurd h8 (by decide)
 refine pq2 J (qg J (qp J (qg J (qp J (qb ?_)))))
 rintro (_ | _) h9
 ·exact absurd h9 (by decide)
 refine pq2 J (qg J (qp J (qg J (hcall J J J (step_c _ im ih _ M5 (newM_inv one_ck)) ?_))))
 rintro _ S6 ⟨rfl,M6,K6⟩
 have k6:=k3.trans0 (F5.kx K6).kl
 rw [one_go]
 refine qb ?_
 rintro (_ | _) h10
 ·exact absurd h10 (by decide)
 refine pq2 J (qg J (qp J (qg J (hcall J J J (mat_c _ im ih _ M6) ?_))))
 rintro _ _ ⟨rfl,rfl⟩
 rw [one_at]
 refine qg J (qp J (qb ?_))
 rintro (_ | _) h11
 ·exact absurd h11 (by decide)
 refine pq2 J (qg J (qp J (qg J (pq3 J (qn (kq1 J) kn (eret (fqr J ?_)))))))
 exact ⟨rfl,k6⟩
end Go.Sim.W
