/-
  A part of a proof: see the last text of this claim.
-/
import Derived.Test.YtfejjomhjeioaaaGreatDoorPH
import Derived.Test.YtfejjomhjeioaaaGreatDoorPB
set_option linter.unusedVariables false
set_option linter.unusedSimpArgs false
namespace Go.Sim.Kd
open Go Go.Sim
theorem KV.dec {c:Core} {k i0 i1:Nat} {X A:Int → Bool} {left l':Int} {S:Sg} (h:KV c k i0 i1 X A left S):KV c k i0 i1 X A l' (S.set k (.row [SL 3 (c.decls.map Decl.enc),SL 8 (c.funs.map CFun.enc),I l'])) :=
 ⟨set_ob,⟨by rw [set_ne (Ne.symm h.k0)];exact h.ps.h0,by rw [set_ne (Ne.symm h.k1)];exact h.ps.h1,h.ps.l0,h.ps.l1,h.ps.ne⟩,h.kl,h.k0,h.k1⟩
theorem head_nil {ds:List Decl} {fs:List CFun} {op n ty:Int} {want:List Int} {xs:List Xtor} (h:headOf ds fs op n ty=some (want,xs)) (h4:op ≠ 4) (h8:op ≠ 8):xs=[]:=by
 have key:∀ (cnd:Prop) [Decidable cnd] (w:List Int),(if cnd then some (w,([]:List Xtor)) else none)=some (want,xs) → xs=[]:=by
  intro cnd _ w h
  split at h
  ·simp only [Oie,Pie] at h;exact h.2.symm
  cases h
 have hm:¬ (op=4 ∨ op=8):=by omega
 unfold headOf at h
 by_cases c0:op=0 ∨ op=5
 ·rw [if_pos c0] at h;exact key _ _ h
 rw [if_neg c0] at h
 by_cases c1:op=1
 ·rw [if_pos c1] at h;exact key _ _ h
 rw [if_neg c1] at h
 by_cases c2:op=2 ∨ op=6
 ·rw [if_pos c2] at h
  split at h
  ·split at h
   ·simp only [Option.map_eq_some_iff,Pie] at h;obtain ⟨_,_,_,h⟩:=h;exact h.symm
   cases h
  cases h
 rw [if_neg c2] at h
 by_cases c3:op=3 ∨ op=7
 ·rw [if_pos c3] at h;exact key _ _ h
 rw [if_neg c3,if_neg hm] at h
 by_cases c9:op=9
 ·rw [if_pos c9] at h;exact key _ _ h
 rw [if_neg c9] at h
 by_cases c10:op=10
 ·rw [if_pos c10] at h;exact key _ _ h
 rw [if_neg c10] at h
 by_cases c11:op=11
 ·rw [if_pos c11] at h;exact key _ _ h
 rw [if_neg c11] at h
 by_cases c12:op=12
 ·rw [if_pos c12] at h;exact key _ _ h
 rw [if_neg c12] at h
 by_cases c13:op=13
 ·rw [if_pos c13] at h
  split at h
  ·simp only [Option.map_eq_some_iff,Pie] at h;obtain ⟨_,_,_,h⟩:=h;exact h.symm
  cases h
 rw [if_neg c13] at h
 by_cases c14:op=14
 ·rw [if_pos c14] at h;exact key _ _ h
 rw [if_neg c14] at h
 cases h
theorem vN_some {ds:List Decl} {fs:List CFun} {a:Node} {X A:Int → Bool} (h:vN ds fs a X A=true):∃ want xs,headOf ds fs a.op a.n a.ty=some (want,xs) ∧ vNs ds fs a.args want (if a.op=7 then addV X a.n else X) (if a.op=3 then addV A a.n else A)=true ∧ vBs ds fs a.brs xs X A=true ∧ (if a.op=0 then X a.n else if a.op=5 then A a.n else true)=true:=by
 rw [vN_eq] at h
 split at h
 ·cases h
 rename_i want xs hh
 simp only [Bae] at h
 exact ⟨want,xs,hh,h.1.2,h.2,h.1.1⟩
theorem vN_none {ds:List Decl} {fs:List CFun} {a:Node} {X A:Int → Bool} (e:headOf ds fs a.op a.n a.ty=none):¬ vN ds fs a X A=true:=by
 rw [vN_eq,e]
 simp
theorem nNodes_pos (a:Node):1 ≤ nNodes a:=by rw [nNodes_eq];split <;> omega
theorem nDepth_pos (a:Node):1 ≤ nDepth a:=by rw [nDepth_eq];split <;> omega
abbrev VPs (c:Core) (nd:Node) (X A:Int → Bool) (left deep:Int):Prop:=vN c.decls c.funs nd X A=true ∧ (nNodes nd:Int) ≤ left ∧ deep + nDepth nd ≤ 4001
theorem head_xtorAt {ds:List Decl} {fs:List CFun} {op n ty:Int} (h:op=2 ∨ op=6):headOf ds fs op n ty=(xtorAt ds ty n (decide (op=6))).map fun x=>(x.args.map fun a=>sideOf a.co,[]):=by
 rw [head_xtor (decide_eq_true h),xtorAt]
 split
 ·rename_i d hd
  try rw [hd]
  try simp only []
  split <;> rfl
 rename_i hd
 try rw [hd]
 rfl
section
variable {c:Core} {k i0 i1:Nat} {X A:Int → Bool} {left deep left':Int} {nd:Node} {s S1 S2:Sg} {b:Bool} {want:List Int}
theorem no_post (h0:0 ≤ left) (hK1:KV c k i0 i1 X A (left - 1) S1) (hc1:Chg (K3 k i0 i1) s S1) (hn:¬ VPs c nd X A left deep):VPost c k i0 i1 X A left s (VPs c nd X A left deep) (nNodes nd) [B false] S1 :=
 ⟨false,left - 1,rfl,hK1,hc1,by omega,by omega,⟨fun h=>by simp at h,fun h=>absurd h hn⟩,fun h=>by simp at h⟩
theorem none_post (h0:0 ≤ left) (hK1:KV c k i0 i1 X A (left - 1) S1) (hc1:Chg (K3 k i0 i1) s S1) (e:headOf c.decls c.funs nd.op nd.n nd.ty=none):VPost c k i0 i1 X A left s (VPs c nd X A left deep) (nNodes nd) [B false] S1 :=
 no_post h0 hK1 hc1 fun h=>vN_none e h.1
theorem sorts_P (hl:leafOp nd.op=false) (h05:nd.op ≠ 0 ∧ nd.op ≠ 5) (hb:nd.brs=[]) (hh:headOf c.decls c.funs nd.op nd.n nd.ty=some (want,[])) :
 VPs c nd X A left deep ↔ SortsP c nd.args want (if nd.op=7 then addV X nd.n else X) (if nd.op=3 then addV A nd.n else A) (left - 1) deep:=by
 have e:vN c.decls c.funs nd X A=vNs c.decls c.funs nd.args want (if nd.op=7 then addV X nd.n else X) (if nd.op=3 then addV A nd.n else A):=by
  rw [vN_eq,hh]
  simp only [hb,if_neg h05.1,if_neg h05.2,vBs,Bool.and_true,Bta]
 simp only [VPs,SortsP,e]
 rw [nNodes_eq,nDepth_eq,hl,hb]
 simp only [szL,mxL,Bool.false_eq_true,if_false]
 constructor
 ·rintro ⟨a1,a2,a3⟩;exact ⟨a1,by omega,by omega⟩
 rintro ⟨a1,a2,a3⟩;exact ⟨a1,by omega,by omega⟩
theorem nNodes_sorts (hl:leafOp nd.op=false) (hb:nd.brs=[]):nNodes nd=1 + szL nNodes nd.args:=by
 rw [nNodes_eq,hl,hb]
 simp [szL]
theorem sorts_post (hl:leafOp nd.op=false) (h05:nd.op ≠ 0 ∧ nd.op ≠ 5) (h37:nd.op ≠ 3 ∧ nd.op ≠ 7) (hb:nd.brs=[]) (hh:headOf c.decls c.funs nd.op nd.n nd.ty=some (want,[])) (hc1:Chg (K3 k i0 i1) s S1)
 (hP:KV c k i0 i1 X A left' S2 ∧ Chg (K3 k i0 i1) S1 S2 ∧ -1 ≤ left' ∧ left' ≤ left - 1 ∧ (b=true ↔ SortsP c nd.args want X A (left - 1) deep) ∧ (b=true → left'=left - 1 - szL nNodes nd.args)):VPost c k i0 i1 X A left s (VPs c nd X A left deep) (nNodes nd) [B b] S2:=by
 obtain ⟨p1,p2,p3,p4,p5,p6⟩:=hP
 refine ⟨b,left',rfl,p1,hc1.trans p2,p3,by omega,?_,fun h=>?_⟩
 ·rw [p5,sorts_P hl h05 hb hh,if_neg h37.1,if_neg h37.2]
 rw [p6 h,nNodes_sorts hl hb];omega
theorem mu_post (h37:nd.op=3 ∨ nd.op=7) (hb:nd.brs=[]) (hh:headOf c.decls c.funs nd.op nd.n nd.ty=some ([2],[])) {S3:Sg} (hK3:KV c k i0 i1 X A left' S3) (hc:Chg (K3 k i0 i1) s S3) (p3:-1 ≤ left') (p4:left' ≤ left - 1)
 (p5:b=true ↔ SortsP c nd.args [2] (addsV false X [nd.n] [decide (nd.op=3)]) (addsV true A [nd.n] [decide (nd.op=3)]) (left - 1) deep) (p6:b=true → left'=left - 1 - szL nNodes nd.args):VPost c k i0 i1 X A left s (VPs c nd X A left deep) (nNodes nd) [B b] S3:=by
 have hl:leafOp nd.op=false:=by rcases h37 with h | h <;> rw [h] <;> rfl
 have h05:nd.op ≠ 0 ∧ nd.op ≠ 5:=by omega
 have e1:addsV false X [nd.n] [decide (nd.op=3)]=if nd.op=7 then addV X nd.n else X:=by
  rcases h37 with h | h
  ·simp [addsV,h]
  simp [addsV,h]
 have e2:addsV true A [nd.n] [decide (nd.op=3)]=if nd.op=3 then addV A nd.n else A:=by
  rcases h37 with h | h
  ·simp [addsV,h]
  simp [addsV,h]
 refine ⟨b,left',rfl,hK3,hc,p3,by omega,?_,fun h=>?_⟩
 ·rw [p5,sorts_P hl h05 hb hh,e1,e2]
 rw [p6 h,nNodes_sorts hl hb];omega
theorem brs_post {d:Decl} (h48:nd.op=4 ∨ nd.op=8) (ha:nd.args=[]) (hh:headOf c.decls c.funs nd.op nd.n nd.ty=some ([],d.xtors)) (hc1:Chg (K3 k i0 i1) s S1)
 (hP:KV c k i0 i1 X A left' S2 ∧ Chg (K3 k i0 i1) S1 S2 ∧ -1 ≤ left' ∧ left' ≤ left - 1 ∧ (b=true ↔ BrsP c nd.brs d.xtors X A (left - 1) deep) ∧ (b=true → left'=left - 1 - szL (fun b=>nNodes b.body) nd.brs)):VPost c k i0 i1 X A left s (VPs c nd X A left deep) (nNodes nd) [B b] S2:=by
 obtain ⟨p1,p2,p3,p4,p5,p6⟩:=hP
 have hl:leafOp nd.op=false:=by rcases h48 with h | h <;> rw [h] <;> rfl
 have e:vN c.decls c.funs nd X A=vBs c.decls c.funs nd.brs d.xtors X A:=by
  rw [vN_eq,hh]
  simp only [ha,vNs,Bool.and_true,Bta]
  rw [if_neg (by omega),if_neg (by omega),Bta]
 refine ⟨b,left',rfl,p1,hc1.trans p2,p3,by omega,?_,fun h=>?_⟩
 ·rw [p5]
  simp only [VPs,BrsP,e]
  rw [nNodes_eq,nDepth_eq,hl,ha]
  simp only [szL,mxL,Bool.false_eq_true,if_false]
  constructor
  ·rintro ⟨a1,a2,a3⟩;exact ⟨a1,by omega,by omega⟩
  rintro ⟨a1,a2,a3⟩;exact ⟨a1,by omega,by omega⟩
 rw [p6 h,nNodes_eq,hl,ha];simp [szL];omega
theorem leaf_post (hl:leafOp nd.op=true) (h0:0 ≤ left - 1) (hd:deep ≤ 4000) (hK1:KV c k i0 i1 X A (left - 1) S1) (hc1:Chg (K3 k i0 i1) s S1) (e:b=vN c.decls c.funs nd X A):VPost c k i0 i1 X A left s (VPs c nd X A left deep) (nNodes nd) [B b] S1:=by
 have n1:nNodes nd=1:=by rw [nNodes_eq,if_pos hl]
 have d1:nDepth nd=1:=by rw [nDepth_eq,if_pos hl]
 refine ⟨b,left - 1,rfl,hK1,hc1,by omega,by omega,?_,fun _=>by rw [n1];omega⟩
 rw [e]
 simp only [VPs,n1,d1]
 exact ⟨fun h=>⟨h,by omega,by omega⟩,fun h=>h.1⟩
end
theorem vNs_nil {ds:List Decl} {fs:List CFun} {X A:Int → Bool} {l:List Node}:vNs ds fs l [] X A=decide (l.length=0):=by
 cases l with
 | nil=>rw [vNs];rfl
 | cons a l=>simp [vNs]
theorem vBs_nil {ds:List Decl} {fs:List CFun} {X A:Int → Bool}:vBs ds fs [] [] X A=true:=by rw [vBs]
theorem valid_c0 (c:Core) (hc:CoreSz c) (nd:Node) (hz:nd.sz ≤ 2 ^ 40) (H1:∀ b ∈ nd.args,VC c b) (H2:∀ b ∈ nd.brs,VC c b.body) (s:Sg) (k i0 i1:Nat) (X A:Int → Bool) (left deep:Int) (hK:KV c k i0 i1 X A left s) (h0:0 ≤ left) (h00:left ≤ 2 ^ 40) (hd1:0 ≤ deep) (hd2:deep ≤ 4001):HC p N63_ [.ptr k 0,.agg [.map i0,.map i1],.agg nd.cs,I deep] s (fun r s'=>VPost c k i0 i1 X A left s (vN c.decls c.funs nd X A=true ∧ (nNodes nd:Int) ≤ left ∧ deep + nDepth nd ≤ 4001) (nNodes nd) r s'):=by
 have hza:nd.args.length ≤ 2 ^ 40:=by have:=nd.sz_args;omega
 refine hcf J f63_ J ?_
 simp only [chainOf]
 refine er (hbox (dq4 J) J (lq2 J) (hbox (dq5 J) J (lq5 J) (qp J (qn (kq4 J) (kq2 J) (er (pq3 J (hldo J hK.hk J ?_)))))))
 refine hsub rfl rfl (i64w (by omega)) (qp rfl (qp rfl (hsto (cs':=[SL 3 (c.decls.map Decl.enc),SL 8 (c.funs.map CFun.enc),I (left - 1)]) rfl rfl hK.hk rfl (Nlb rfl) (by simp) (by rfl) ?_)))
 have hK1:=hK.dec (l':=left - 1)
 have hc1:Chg (K3 k i0 i1) s (s.set k (.row [SL 3 (c.decls.map Decl.enc),SL 8 (c.funs.map CFun.enc),I (left - 1)])):=(Chg.refl s).set fun _=>.inl rfl
 generalize s.set k (.row [SL 3 (c.decls.map Decl.enc),SL 8 (c.funs.map CFun.enc),I (left - 1)])=S1 at hK1 hc1 ⊢
 refine qn (kq4 J) (kq2 J) (eseq (er (pq3 J (hldo J hK1.hk J ?_))))
 refine qp J (qb ?_)
 rintro (_ | _) h1
 refine qp J (qg J (qp J (qg J (qp J (qb ?_)))))
 rintro (_ | _) h2
 refine qp J (qn (kq5 J) (kq2 J) (ecF J (eskip (sqn (eseq (eseq ?_))))))
 refine ejoin 43 (decide (nd.op ≠ 4) && decide (nd.op ≠ 8) && decide (nd.brs.length ≠ 0)) (k:=[0,3,5,6,43]) (kl:=[5,6]) (kc rfl (kc rfl (kc rfl (kc rfl (kc rfl kn))))) (kc rfl (kc rfl kn)) ?_ ?_
 refine ereg (pq3 J (qb ?_))
 rintro (_ | _) h3
 refine qp J (zq3 J (pq2 J (zq4 J (qp J (qk (kq5 J) (kq2 J) ?_)))))
 exact ⟨rfl,by rw [show (decide (nd.op ≠ 4) && decide (nd.op ≠ 8) && decide (nd.brs.length ≠ 0))=false from by (simp_all;try omega)]⟩
 refine qp J (qg J (qp J (qg J (qp J (qg J (qp J (qb ?_)))))))
 rintro (_ | _) h4
 refine pq2 J (zq4 J (qp J (qk (kq5 J) (kq2 J) ?_)))
 exact ⟨rfl,by rw [show (decide (nd.op ≠ 4) && decide (nd.op ≠ 8) && decide (nd.brs.length ≠ 0))=false from by (simp_all;try omega)]⟩
 refine pq2 J (qg J (qp J (qg J (qp J (qg J (qp J (qg J (qp J (qb ?_)))))))))
 rintro (_ | _) h5
 refine qp J (qk (kq5 J) (kq2 J) ?_)
 exact ⟨rfl,by rw [show (decide (nd.op ≠ 4) && decide (nd.op ≠ 8) && decide (nd.brs.length ≠ 0))=false from by (simp_all;try omega)]⟩
 refine qp J (qk (kq5 J) (kq2 J) ?_)
 exact ⟨rfl,by rw [show (decide (nd.op ≠ 4) && decide (nd.op ≠ 8) && decide (nd.brs.length ≠ 0))=true from by (simp_all;try omega)]⟩
 refine sqn ?_
 refine ecS J ?_ ?_
 intro h6
 refine er (qp J (qn (kq1 J) kn (eret (sqr (fqr J (no_post h0 hK1 hc1 fun h=>?_))))))
 have g:(decide (nd.op ≠ 4) && decide (nd.op ≠ 8) && decide (nd.brs.length ≠ 0))=true:=by assumption
 simp only [Bae,Dte] at g
 obtain ⟨want,xs,e1,e2,e3,_⟩:=vN_some h.1
 have:=vBs_len e3
 rw [head_nil e1 g.1.1 g.1.2] at this
 exact g.2 this
 intro h6
 refine eskip (sqn (eseq ?_))
 refine ejoin 9 (typedOk c.decls nd.ty) (k:=[0,3,5,6,9]) (kl:=[5,6]) (kc rfl (kc rfl (kc rfl (kc rfl (kc rfl kn))))) (kc rfl (kc rfl kn)) ?_ ?_
 refine ereg (pq3 J (qb ?_))
 rintro (_ | _) h7
 refine qp J (zq8 J (pq2 J (qk (kq5 J) (kq2 J) ?_)))
 exact ⟨rfl,by rw [show (typedOk c.decls nd.ty)=false from by (simp_all [typedOk];try omega)]⟩
 refine qp J (qg J (qp J (qg J (qp J (qg J (qp J (qg J (qp J (qg J (qp J (qg J (hldo J hK1.hk J ?_))))))))))))
 refine qg J (qp J (qg J (qp J (qb ?_))))
 rintro (_ | _) h8
 refine pq2 J (qk (kq5 J) (kq2 J) ?_)
 exact ⟨rfl,by rw [show (typedOk c.decls nd.ty)=false from by (simp_all [typedOk];try omega)]⟩
 refine pq2 J (qk (kq5 J) (kq2 J) ?_)
 exact ⟨rfl,by rw [show (typedOk c.decls nd.ty)=true from by (simp_all [typedOk];try omega)]⟩
 refine sqn (eseq (er (pq2 J (qn (kq6 J) (kq2 J) (eblock (eseq ?_))))))
 refine ejoin 59 (decide (nd.op=0 ∨ nd.op=5)) (k:=[0,3,5,6,9,58,59]) (kl:=[5,6]) (kc rfl (kc rfl (kc rfl (kc rfl (kc rfl (kc rfl (kc rfl kn))))))) (kc rfl (kc rfl kn)) ?_ ?_
 refine er (qp J (qb ?_))
 rintro (_ | _) h9
 refine qp J (qn (kq7 J) (kq2 J) (ecF J (ereg (qp J (qb ?_)))))
 rintro (_ | _) h10
 refine qp J (qk (kq7 J) (kq2 J) ?_)
 exact ⟨rfl,by rw [show (decide (nd.op=0 ∨ nd.op=5))=false from by (simp_all;try omega)]⟩
 refine qp J (qk (kq7 J) (kq2 J) ?_)
 exact ⟨rfl,by rw [show (decide (nd.op=0 ∨ nd.op=5))=true from by (simp_all;try omega)]⟩
 refine qp J (qn (kq7 J) (kq2 J) (ecT J (eskip ?_)))
 exact ⟨rfl,by rw [show (decide (nd.op=0 ∨ nd.op=5))=true from by (simp_all;try omega)]⟩
 refine sqn ?_
 refine ecS J ?_ ?_
 intro h11
 refine er (pq3 J (qb ?_))
 rintro (_ | _) h12
 refine qp J (zq4 J (pq2 J (zq3 J (pq2 J (zq8 J (pq2 J (qn (kq1 J) kn ?_)))))))
 refine eret (bqr (sqr (fqr J ?_)))
 have ho:nd.op=0 ∨ nd.op=5:=Odt ‹_›
 have hl:leafOp nd.op=true:=by rcases ho with h | h <;> rw [h] <;> rfl
 have hb0:nd.brs=[]:=by
  have g:(decide (nd.op ≠ 4) && decide (nd.op ≠ 8) && decide (nd.brs.length ≠ 0))=false:=by assumption
  have g2:nd.op=4 ∨ nd.op=8 ∨ nd.brs.length=0:=by simpa [Decidable.or_iff_not_imp_left] using g
  exact Lnl (by omega)
 have hhd:=head_var (ds:=c.decls) (fs:=c.funs) (n:=nd.n) (ty:=nd.ty) (decide_eq_true ho)
 have hl0:0 ≤ left - 1:=by have g:decide (left - 1 < 0)=false:=‹_›;simpa using g
 have hd0:deep ≤ 4000:=by have g:decide (4000 < deep)=false:=‹_›;simpa using g
 first
 | exact none_post h0 hK1 hc1 (hhd.trans (if_neg (fun q=>by first | exact absurd q.1 (of_decide_eq_false ‹_›) | exact absurd q.1 (Bool.eq_false_iff.1 ‹_›) | exact absurd q.2 (of_decide_eq_false ‹_›) | exact absurd q.2 (Bool.eq_false_iff.1 ‹_›))))
 | (refine no_post h0 hK1 hc1 fun h=>?_
    have g:decide (((nd.args.map Node.enc).length:Int)=0)=false:=by assumption
    obtain ⟨want,xs,e1,e2,_⟩:=vN_some h.1
    rw [hhd] at e1
    split at e1
    ·simp only [Oie,Pie] at e1
     obtain ⟨rfl,rfl⟩:=e1
     have:=vNs_len e2
     simp at this
     simp [this] at g
    cases e1)
 | (refine leaf_post hl hl0 hd0 hK1 hc1 ?_
    have g:decide (((nd.args.map Node.enc).length:Int)=0)=true:=by assumption
    have ha:nd.args=[]:=by simp at g;first | exact g | exact Lnl (by omega)
    have hh2:=hhd.trans (if_pos ⟨Odt ‹_›,by assumption⟩)
    rw [vN_eq,hh2,ha,hb0]
    simp only [vNs,vBs,Bool.and_true]
    rcases ho with h | h
    ·simp [h]
    simp [h])
 refine qp J (qg J (qp J (qg J (qp J (qg J (qp J (qg J (qp J (qb ?_)))))))))
 rintro (_ | _) h13
 refine pq2 J (zq3 J (pq2 J (zq8 J (pq2 J (qn (kq1 J) kn (eret (bqr (sqr (fqr J ?_)))))))))
 have ho:nd.op=0 ∨ nd.op=5:=Odt ‹_›
 have hl:leafOp nd.op=true:=by rcases ho with h | h <;> rw [h] <;> rfl
 have hb0:nd.brs=[]:=by
  have g:(decide (nd.op ≠ 4) && decide (nd.op ≠ 8) && decide (nd.brs.length ≠ 0))=false:=by assumption
  have g2:nd.op=4 ∨ nd.op=8 ∨ nd.brs.length=0:=by simpa [Decidable.or_iff_not_imp_left] using g
  exact Lnl (by omega)
 have hhd:=head_var (ds:=c.decls) (fs:=c.funs) (n:=nd.n) (ty:=nd.ty) (decide_eq_true ho)
 have hl0:0 ≤ left - 1:=by have g:decide (left - 1 < 0)=false:=‹_›;simpa using g
 have hd0:deep ≤ 4000:=by have g:decide (4000 < deep)=false:=‹_›;simpa using g
 first
 | exact none_post h0 hK1 hc1 (hhd.trans (if_neg (fun q=>by first | exact absurd q.1 (of_decide_eq_false ‹_›) | exact absurd q.1 (Bool.eq_false_iff.1 ‹_›) | exact absurd q.2 (of_decide_eq_false ‹_›) | exact absurd q.2 (Bool.eq_false_iff.1 ‹_›))))
 | (refine no_post h0 hK1 hc1 fun h=>?_
    have g:decide (((nd.args.map Node.enc).length:Int)=0)=false:=by assumption
    obtain ⟨want,xs,e1,e2,_⟩:=vN_some h.1
    rw [hhd] at e1
    split at e1
    ·simp only [Oie,Pie] at e1
     obtain ⟨rfl,rfl⟩:=e1
     have:=vNs_len e2
     simp at this
     simp [this] at g
    cases e1)
 | (refine leaf_post hl hl0 hd0 hK1 hc1 ?_
    have g:decide (((nd.args.map Node.enc).length:Int)=0)=true:=by assumption
    have ha:nd.args=[]:=by simp at g;first | exact g | exact Lnl (by omega)
    have hh2:=hhd.trans (if_pos ⟨Odt ‹_›,by assumption⟩)
    rw [vN_eq,hh2,ha,hb0]
    simp only [vNs,vBs,Bool.and_true]
    rcases ho with h | h
    ·simp [h]
    simp [h])
 refine pq2 J (qg J (qp J (qg J (qp J (qg J (hcall J J J (number_c _ _) ?_))))))
 rintro _ _ ⟨rfl,hq⟩
 obtain rfl:=hq.symm
 refine qb ?_
 rintro (_ | _) h14
 refine pq2 J (zq8 J (pq2 J (qn (kq1 J) kn (eret (bqr (sqr (fqr J ?_)))))))
 have ho:nd.op=0 ∨ nd.op=5:=Odt ‹_›
 have hl:leafOp nd.op=true:=by rcases ho with h | h <;> rw [h] <;> rfl
 have hb0:nd.brs=[]:=by
  have g:(decide (nd.op ≠ 4) && decide (nd.op ≠ 8) && decide (nd.brs.length ≠ 0))=false:=by assumption
  have g2:nd.op=4 ∨ nd.op=8 ∨ nd.brs.length=0:=by simpa [Decidable.or_iff_not_imp_left] using g
  exact Lnl (by omega)
 have hhd:=head_var (ds:=c.decls) (fs:=c.funs) (n:=nd.n) (ty:=nd.ty) (decide_eq_true ho)
 have hl0:0 ≤ left - 1:=by have g:decide (left - 1 < 0)=false:=‹_›;simpa using g
 have hd0:deep ≤ 4000:=by have g:decide (4000 < deep)=false:=‹_›;simpa using g
 first
 | exact none_post h0 hK1 hc1 (hhd.trans (if_neg (fun q=>by first | exact absurd q.1 (of_decide_eq_false ‹_›) | exact absurd q.1 (Bool.eq_false_iff.1 ‹_›) | exact absurd q.2 (of_decide_eq_false ‹_›) | exact absurd q.2 (Bool.eq_false_iff.1 ‹_›))))
 | (refine no_post h0 hK1 hc1 fun h=>?_
    have g:decide (((nd.args.map Node.enc).length:Int)=0)=false:=by assumption
    obtain ⟨want,xs,e1,e2,_⟩:=vN_some h.1
    rw [hhd] at e1
    split at e1
    ·simp only [Oie,Pie] at e1
     obtain ⟨rfl,rfl⟩:=e1
     have:=vNs_len e2
     simp at this
     simp [this] at g
    cases e1)
 | (refine leaf_post hl hl0 hd0 hK1 hc1 ?_
    have g:decide (((nd.args.map Node.enc).length:Int)=0)=true:=by assumption
    have ha:nd.args=[]:=by simp at g;first | exact g | exact Lnl (by omega)
    have hh2:=hhd.trans (if_pos ⟨Odt ‹_›,by assumption⟩)
    rw [vN_eq,hh2,ha,hb0]
    simp only [vNs,vBs,Bool.and_true]
    rcases ho with h | h
    ·simp [h]
    simp [h])
 refine pq2 J (qg J (qp J (qg J (qp J (qg J (hcall J J J (Sort_c _ _) ?_))))))
 rintro _ _ ⟨rfl,hq⟩
 obtain rfl:=hq.symm
 refine qg J ?_
 have hso:sortOf nd.op=sideOf (decide (nd.op=5)):=by
  have g:nd.op=0 ∨ nd.op=5:=Odt ‹_›
  rcases g with g | g <;> rw [g] <;> rfl
 refine qp (t:=.loc 5 (0 + (sideOf (decide (nd.op=5))).toNat * 1)) (by rw [hso];cases decide (nd.op=5) <;> rfl) ?_
 refine qg J ?_
 refine qp (t:=.val (.map (if decide (nd.op=5) then i1 else i0))) (by cases decide (nd.op=5) <;> rfl) ?_
 refine qg rfl (qp rfl (qg rfl (qp rfl (qg rfl (hlk (m:=setM (if decide (nd.op=5) then A else X)) rfl rfl rfl (hK1.ps.at _) ?_)))))
 rw [setM_get]
 refine pq2 J (qn (kq1 J) kn (eret (bqr (sqr (fqr J ?_)))))
 have ho:nd.op=0 ∨ nd.op=5:=Odt ‹_›
 have hl:leafOp nd.op=true:=by rcases ho with h | h <;> rw [h] <;> rfl
 have hb0:nd.brs=[]:=by
  have g:(decide (nd.op ≠ 4) && decide (nd.op ≠ 8) && decide (nd.brs.length ≠ 0))=false:=by assumption
  have g2:nd.op=4 ∨ nd.op=8 ∨ nd.brs.length=0:=by simpa [Decidable.or_iff_not_imp_left] using g
  exact Lnl (by omega)
 have hhd:=head_var (ds:=c.decls) (fs:=c.funs) (n:=nd.n) (ty:=nd.ty) (decide_eq_true ho)
 have hl0:0 ≤ left - 1:=by have g:decide (left - 1 < 0)=false:=‹_›;simpa using g
 have hd0:deep ≤ 4000:=by have g:decide (4000 < deep)=false:=‹_›;simpa using g
 first
 | exact none_post h0 hK1 hc1 (hhd.trans (if_neg (fun q=>by first | exact absurd q.1 (of_decide_eq_false ‹_›) | exact absurd q.1 (Bool.eq_false_iff.1 ‹_›) | exact absurd q.2 (of_decide_eq_false ‹_›) | exact absurd q.2 (Bool.eq_false_iff.1 ‹_›))))
 | (refine no_post h0 hK1 hc1 fun h=>?_
    have g:decide (((nd.args.map Node.enc).length:Int)=0)=false:=by assumption
    obtain ⟨want,xs,e1,e2,_⟩:=vN_some h.1
    rw [hhd] at e1
    split at e1
    ·simp only [Oie,Pie] at e1
     obtain ⟨rfl,rfl⟩:=e1
     have:=vNs_len e2
     simp at this
     simp [this] at g
    cases e1)
 | (refine leaf_post hl hl0 hd0 hK1 hc1 ?_
    have g:decide (((nd.args.map Node.enc).length:Int)=0)=true:=by assumption
    have ha:nd.args=[]:=by simp at g;first | exact g | exact Lnl (by omega)
    have hh2:=hhd.trans (if_pos ⟨Odt ‹_›,by assumption⟩)
    rw [vN_eq,hh2,ha,hb0]
    simp only [vNs,vBs,Bool.and_true]
    rcases ho with h | h
    ·simp [h]
    simp [h])
 intro h11
 refine er (qp J (qb ?_))
 rintro (_ | _) h15
 refine qp J (qn (kq7 J) (kq2 J) (ecF J (eseq ?_)))
 refine ejoin 97 (decide (nd.op=2 ∨ nd.op=6)) (k:=[0,3,5,6,9,58,97]) (kl:=[5,6]) (kc rfl (kc rfl (kc rfl (kc rfl (kc rfl (kc rfl (kc rfl kn))))))) (kc rfl (kc rfl kn)) ?_ ?_
 refine er (qp J (qb ?_))
 rintro (_ | _) h16
 refine qp J (qn (kq7 J) (kq2 J) (ecF J (ereg (qp J (qb ?_)))))
 rintro (_ | _) h17
 refine qp J (qk (kq7 J) (kq2 J) ?_)
 exact ⟨rfl,by rw [show (decide (nd.op=2 ∨ nd.op=6))=false from by (simp_all;try omega)]⟩
 refine qp J (qk (kq7 J) (kq2 J) ?_)
 exact ⟨rfl,by rw [show (decide (nd.op=2 ∨ nd.op=6))=true from by (simp_all;try omega)]⟩
 refine qp J (qn (kq7 J) (kq2 J) (ecT J (eskip ?_)))
 exact ⟨rfl,by rw [show (decide (nd.op=2 ∨ nd.op=6))=true from by (simp_all;try omega)]⟩
 refine sqn ?_
 refine ecS J ?_ ?_
 intro h18
 refine er (pq6 J (pq2 J (hcall J J J (xtor_c _ c k (left - 1) nd.ty nd.n (decide (nd.op=6)) hc.dl hK1.hk) ?_)))
 rintro _ _ ⟨hq,x,ok,rfl,hx⟩
 obtain rfl:=hq.symm
 refine pq3 J (qb ?_)
 rintro (_ | _) h19
 refine hal (dc (dc (dc (dq16 J) J) J) J) (hstl J J J J (Nlb J) (lq2 J) (qp J (qn (kq6 J) (kq3 J) (er (pq2 J (zq8 J (pq2 J (qn (kq1 J) kn (eret (bqr (sqr ?_)))))))))))
 refine fqr J ?_
 have ho:nd.op=2 ∨ nd.op=6:=Odt ‹_›
 have hl:leafOp nd.op=false:=by rcases ho with h | h <;> rw [h] <;> rfl
 have hb0:nd.brs=[]:=by
  have g:(decide (nd.op ≠ 4) && decide (nd.op ≠ 8) && decide (nd.brs.length ≠ 0))=false:=by assumption
  have g2:nd.op=4 ∨ nd.op=8 ∨ nd.brs.length=0:=by simpa [Decidable.or_iff_not_imp_left] using g
  exact Lnl (by omega)
 have hhd:=head_xtorAt (ds:=c.decls) (fs:=c.funs) (n:=nd.n) (ty:=nd.ty) ho
 rw [hx] at hhd
 first
 | (have g:ok=true:=by assumption
    subst g
    exact sorts_post hl (by omega) (by omega) hb0 hhd hc1 hP)
 | (have g:ok=false:=by assumption
    subst g
    exact none_post h0 hK1 hc1 hhd)
 refine hal (dc (dc (dc (dq16 J) J) J) J) (hstl J J J J (Nlb J) (lq2 J) (qp J (qn (kq6 J) (kq3 J) (er (pq2 J (qg J (qp J (qg J (hlda J J (lq2 J) (qg J (qp J (qg J (qp J (qg J (qp J (qg J (qp J (qg J (qp J (qg J ?_))))))))))))))))))))
 refine hcall rfl rfl rfl (args_cc _ c k i0 i1 X A (left - 1) deep nd.args x.args hza (by
  have g:ok=true:=by assumption
  rw [g,if_pos rfl,xtorAt] at hx
  split at hx
  ·rename_i d hd
   split at hx
   ·have hbd:=declAt_bounds hd
    rw [declAt,if_pos hbd.1] at hd
    exact hc.xa d (Lmg hd) x (Lmg hx)
   cases hx
  cases hx) ⟨hd1,by have g:decide (4000 < deep)=false:=‹_›;simp at g;omega⟩ ⟨by have g:decide (left - 1 < 0)=false:=‹_›;simp at g;omega,by omega⟩ hK1 H1) ?_
 rintro _ S2 ⟨b,left',rfl,hP⟩
 refine pq2 J (qn (kq1 J) kn (eret (bqr (sqr (fqr J ?_)))))
 have ho:nd.op=2 ∨ nd.op=6:=Odt ‹_›
 have hl:leafOp nd.op=false:=by rcases ho with h | h <;> rw [h] <;> rfl
 have hb0:nd.brs=[]:=by
  have g:(decide (nd.op ≠ 4) && decide (nd.op ≠ 8) && decide (nd.brs.length ≠ 0))=false:=by assumption
  have g2:nd.op=4 ∨ nd.op=8 ∨ nd.brs.length=0:=by simpa [Decidable.or_iff_not_imp_left] using g
  exact Lnl (by omega)
 have hhd:=head_xtorAt (ds:=c.decls) (fs:=c.funs) (n:=nd.n) (ty:=nd.ty) ho
 rw [hx] at hhd
 first
 | (have g:ok=true:=by assumption
    subst g
    exact sorts_post hl (by omega) (by omega) hb0 hhd hc1 hP)
 | (have g:ok=false:=by assumption
    subst g
    exact none_post h0 hK1 hc1 hhd)
 intro h18
 refine eseq ?_
 refine ejoin 123 (decide (nd.op=3 ∨ nd.op=7)) (k:=[0,3,5,6,9,58,123]) (kl:=[5,6]) (kc rfl (kc rfl (kc rfl (kc rfl (kc rfl (kc rfl (kc rfl kn))))))) (kc rfl (kc rfl kn)) ?_ ?_
 refine er (qp J (qb ?_))
 rintro (_ | _) h20
 refine qp J (qn (kq7 J) (kq2 J) (ecF J (ereg (qp J (qb ?_)))))
 rintro (_ | _) h21
 refine qp J (qk (kq7 J) (kq2 J) ?_)
 exact ⟨rfl,by rw [show (decide (nd.op=3 ∨ nd.op=7))=false from by (simp_all;try omega)]⟩
 refine qp J (qk (kq7 J) (kq2 J) ?_)
 exact ⟨rfl,by rw [show (decide (nd.op=3 ∨ nd.op=7))=true from by (simp_all;try omega)]⟩
 refine qp J (qn (kq7 J) (kq2 J) (ecT J (eskip ?_)))
 exact ⟨rfl,by rw [show (decide (nd.op=3 ∨ nd.op=7))=true from by (simp_all;try omega)]⟩
 refine sqn ?_
 refine ecS J ?_ ?_
 intro h22
 refine eseq (er (qp J (qb ?_)))
 rintro (_ | _) h23
 refine pq2 J (zq4 J (qp J (qn (kq5 J) (kq2 J) (ecT J (er (qp J (qn (kq1 J) kn (eret (sqr (bqr (sqr (fqr J ?_))))))))))))
 have ho:nd.op=3 ∨ nd.op=7:=Odt ‹_›
 have hhd:=head_mu (ds:=c.decls) (fs:=c.funs) (n:=nd.n) (ty:=nd.ty) (decide_eq_true ho)
 exact none_post h0 hK1 hc1 (hhd.trans (if_neg (fun q=>by first | exact absurd q.1 (of_decide_eq_false ‹_›) | exact absurd q.1 (Bool.eq_false_iff.1 ‹_›) | exact absurd q.2 (of_decide_eq_false ‹_›) | exact absurd q.2 (Bool.eq_false_iff.1 ‹_›))))
 refine pq2 J (qg J (qp J (qg J (qp J (qg J (hcall J J J (number_c _ _) ?_))))))
 rintro _ _ ⟨rfl,hq⟩
 obtain rfl:=hq.symm
 refine qb ?_
 rintro (_ | _) h24
 refine qg J (pq2 J (qn (kq5 J) (kq2 J) (ecT J (er (qp J (qn (kq1 J) kn (eret (sqr (bqr (sqr (fqr J ?_)))))))))))
 have ho:nd.op=3 ∨ nd.op=7:=Odt ‹_›
 have hhd:=head_mu (ds:=c.decls) (fs:=c.funs) (n:=nd.n) (ty:=nd.ty) (decide_eq_true ho)
 exact none_post h0 hK1 hc1 (hhd.trans (if_neg (fun q=>by first | exact absurd q.1 (of_decide_eq_false ‹_›) | exact absurd q.1 (Bool.eq_false_iff.1 ‹_›) | exact absurd q.2 (of_decide_eq_false ‹_›) | exact absurd q.2 (Bool.eq_false_iff.1 ‹_›))))
 refine qg J (pq2 J (qn (kq5 J) (kq2 J) (ecF J (eskip (sqn (er (hlda J J (lq2 J) (pq2 J (hbsl J J (lq1 J) (pq3 J (hbsl J J (lq1 J) (hcall J J J (enter_c _ i0 i1 X A [nd.n] [decide (nd.op=3)] (by simp) (by simp) hK1.ps) ?_))))))))))))
 rintro _ S2 ⟨bs,ba,rfl,hE,hc2,hbs,hba⟩
 have hK2:=en_kv hK1 hE hc2
 refine qp rfl (qk (kc rfl (kc rfl (kc rfl (kc rfl (kc rfl kn))))) (kc rfl (kc rfl kn)) (sqn (eseq (ereg (qp rfl (hlda rfl rfl (lc rfl (lc rfl (ln rfl))) (qp rfl (qp rfl (qp rfl (hbsl rfl rfl (lc rfl (ln rfl)) (hcall rfl rfl rfl (sorts_c _ c k i0 i1 _ _ (left - 1) deep nd.args [2] hza ⟨hd1,by have g:decide (4000 < deep)=false:=‹_›;simp at g;omega⟩ ⟨by have g:decide (left - 1 < 0)=false:=‹_›;simp at g;omega,by omega⟩ hK2 H1) ?_)))))))))))
 rintro _ S2' ⟨b,left',rfl,hK2',hcv,q3,q4,q5,q6⟩
 refine qp J (qn (kq2 J) kn (er (qp J (hcall J J J (lv_c hK1 hE hc2 hbs hba hK2' hcv (by simp)) ?_))))
 rintro _ S3 ⟨rfl,hK3,hc3⟩
 refine qn (kq1 J) kn (er (pq2 J (qn (kq1 J) kn (eret (bqr (sqr (fqr J ?_)))))))
 have ho:nd.op=3 ∨ nd.op=7:=Odt ‹_›
 have hb0:nd.brs=[]:=by
  have g:(decide (nd.op ≠ 4) && decide (nd.op ≠ 8) && decide (nd.brs.length ≠ 0))=false:=by assumption
  have g2:nd.op=4 ∨ nd.op=8 ∨ nd.brs.length=0:=by simpa [Decidable.or_iff_not_imp_left] using g
  exact Lnl (by omega)
 have hhd:=head_mu (ds:=c.decls) (fs:=c.funs) (n:=nd.n) (ty:=nd.ty) (decide_eq_true ho)
 exact mu_post ho hb0 (hhd.trans (if_pos ⟨by assumption,by assumption⟩)) hK3 (hc1.trans hc3) q3 q4 q5 q6
 intro h22
 refine eseq ?_
 refine ejoin 153 (decide (nd.op=4 ∨ nd.op=8)) (k:=[0,3,5,6,9,58,153]) (kl:=[5,6]) (kc rfl (kc rfl (kc rfl (kc rfl (kc rfl (kc rfl (kc rfl kn))))))) (kc rfl (kc rfl kn)) ?_ ?_
 refine er (qp J (qb ?_))
 rintro (_ | _) h25
 refine qp J (qn (kq7 J) (kq2 J) (ecF J (ereg (qp J (qb ?_)))))
 rintro (_ | _) h26
 refine qp J (qk (kq7 J) (kq2 J) ?_)
 exact ⟨rfl,by rw [show (decide (nd.op=4 ∨ nd.op=8))=false from by (simp_all;try omega)]⟩
 refine qp J (qk (kq7 J) (kq2 J) ?_)
 exact ⟨rfl,by rw [show (decide (nd.op=4 ∨ nd.op=8))=true from by (simp_all;try omega)]⟩
 refine qp J (qn (kq7 J) (kq2 J) (ecT J (eskip ?_)))
 exact ⟨rfl,by rw [show (decide (nd.op=4 ∨ nd.op=8))=true from by (simp_all;try omega)]⟩
 refine sqn ?_
 refine ecS J ?_ ?_
 intro h27
 refine er (pq3 J (qb ?_))
 rintro (_ | _) h28
 refine qp J (zq4 J (pq2 J (zq3 J (pq2 J (zq1 J (pq2 J (zq9 J ?_)))))))
 refine zq5 J (pq2 J (zq5 J (pq2 J (qn (kq1 J) kn (eret (bqr (sqr (fqr J ?_))))))))
 rotate_left
 refine qp J (qg J (qp J (qg J (qp J (qg J (qp J (qg J (qp J (qb ?_)))))))))
 rintro (_ | _) h29
 refine pq2 J (zq3 J (pq2 J (zq1 J (pq2 J (zq10 J (zq4 J ?_))))))
 refine pq2 J (zq5 J (pq2 J (qn (kq1 J) kn (eret (bqr (sqr (fqr J ?_)))))))
 rotate_left
 refine pq2 J (qg J (qp J (qg J (qp J (qg J (qp J (qb ?_)))))))
 rintro (_ | _) h30
 refine pq2 J (zq1 J (pq2 J (zq10 J (zq4 J (pq2 J (zq3 J ?_))))))
 refine zq2 J (pq2 J (qn (kq1 J) kn (eret (bqr (sqr (fqr J ?_))))))
 rotate_left
 refine pq2 J (qg J (qp J (qb ?_)))
 rintro (_ | _) h31
 refine pq2 J (zq10 J (zq4 J (pq2 J (zq5 J (qp J ?_)))))
 refine qp J (qn (kq1 J) kn (eret (bqr (sqr (fqr J ?_)))))
 rotate_left
 refine pq2 J (qg J (qp J (qg J (qp J (qg J (qp J (qg J (hldo J hK1.hk J ?_))))))))
 refine qg rfl (qp rfl (qg rfl (qp rfl (qg rfl (hsub rfl rfl (i64w (by have g1:decide (1 ≤ nd.ty)=true:=‹_›;have g2:typedOk c.decls nd.ty=true:=‹_›;have g3:=hc.dl;simp [typedOk] at g1 g2;omega)) (qg rfl ?_))))))
 have g1:decide (1 ≤ nd.ty)=true:=by assumption
 have g2:typedOk c.decls nd.ty=true:=by assumption
 have g3:decide (((nd.args.map Node.enc).length:Int)=0)=true:=by assumption
 have ha:nd.args=[]:=by simp at g3;first | exact g3 | exact Lnl (by omega)
 have hty:1 ≤ nd.ty ∧ nd.ty ≤ c.decls.length:=by simp [typedOk] at g1 g2;omega
 obtain ⟨d,hd⟩:=get_of_lt (l:=c.decls) (i:=(nd.ty - 1).toNat) (by omega)
 have hda:declAt c.decls nd.ty=some d:=by rw [declAt,if_pos hty.1];exact hd
 refine hia (y:=Decl.enc d) rfl rfl (by omega) (by rw [Lgm,hd];rfl) rfl ?_
 refine qg J (qp J (qg J (qp J (qg J (qp J (qg J (qp J (qg J (qp J (qg J (qp J (qb ?_))))))))))))
 rintro (_ | _) h32
 refine pq2 J (zq5 J (pq2 J (qn (kq1 J) kn (eret (bqr (sqr (fqr J ?_)))))))
 rotate_left
 refine qp rfl (qp rfl (qg rfl (qp rfl (qg rfl (hlda rfl rfl (lc rfl (lc rfl (ln rfl))) (qg rfl (hlda rfl rfl (lc rfl (lc rfl (lc rfl (lc rfl (lc rfl (ln rfl)))))) (qg rfl (qp rfl (qg rfl (hcall rfl rfl rfl (branches_c _ c k i0 i1 X A (left - 1) deep nd d hc.dl hty hd (hc.xa d (Lmg hd)) hz ⟨hd1,by have g:decide (4000 < deep)=false:=‹_›;simp at g;omega⟩ ⟨by have g:decide (left - 1 < 0)=false:=‹_›;simp at g;omega,by omega⟩ hK1 H2) ?_)))))))))))
 rintro _ S2 ⟨b,left',rfl,hP⟩
 refine pq2 J (qn (kq1 J) kn (eret (bqr (sqr (fqr J ?_)))))
 rotate_left
 intro h27
 refine er (qp J (qb ?_))
 rintro (_ | _) h33
 refine qp J (qn (kq7 J) (kq2 J) (ecF J (er (qp J (qb ?_)))))
 rintro (_ | _) h34
 refine qp J (qn (kq6 J) (kq2 J) (ecF J (er (qp J (qb ?_)))))
 rintro (_ | _) h35
 refine qp J (qn (kq6 J) (kq2 J) (ecF J (er (qp J (qb ?_)))))
 rintro (_ | _) h36
 refine qp J (qn (kq6 J) (kq2 J) (ecF J (er (qp J (qb ?_)))))
 rintro (_ | _) h37
 refine qp J (qn (kq6 J) (kq2 J) (ecF J (er (qp J (qb ?_)))))
 rintro (_ | _) h38
 refine qp J (qn (kq5 J) (kq2 J) (ecF J (eskip (bqn (sqn (er (qp J (qn (kq1 J) kn (eret (fqr J ?_))))))))))
 have hhd:headOf c.decls c.funs nd.op nd.n nd.ty=none:=head_no ‹_› ‹_› ‹_› ‹_› (by simp at *;omega) (by simp at *;omega) ‹_› ‹_› ‹_› ‹_› ‹_› ‹_›
 exact none_post h0 hK1 hc1 hhd
 refine qp J (qn (kq5 J) (kq2 J) (ecT J (er (pq3 J (qb ?_)))))
 rintro (_ | _) h39
 refine qp J (zq3 J (pq2 J (zq7 J (pq2 J (qn (kq1 J) kn (eret (bqr (sqr (fqr J ?_)))))))))
 have ho:nd.op=14:=Odt ‹_›
 have hb0:nd.brs=[]:=by
  have g:(decide (nd.op ≠ 4) && decide (nd.op ≠ 8) && decide (nd.brs.length ≠ 0))=false:=by assumption
  have g2:nd.op=4 ∨ nd.op=8 ∨ nd.brs.length=0:=by simpa [Decidable.or_iff_not_imp_left] using g
  exact Lnl (by omega)
 have hhd:=head_done (ds:=c.decls) (fs:=c.funs) (n:=nd.n) (ty:=nd.ty) (decide_eq_true ho)
 first
 | exact sorts_post (want:=[0]) (by rw [ho];rfl) (by omega) (by omega) hb0 (hhd.trans (if_pos ⟨Odt ‹_›,Odt ‹_›⟩)) hc1 hP
 | exact none_post h0 hK1 hc1 (hhd.trans (if_neg (fun q=>by first | exact absurd q.1 (of_decide_eq_false ‹_›) | exact absurd q.1 (Bool.eq_false_iff.1 ‹_›) | exact absurd q.2 (of_decide_eq_false ‹_›) | exact absurd q.2 (Bool.eq_false_iff.1 ‹_›))))
 refine qp J (qg J (qp J (qg J (qp J (qg J (qp J (qb ?_)))))))
 rintro (_ | _) h40
 refine pq2 J (zq7 J (pq2 J (qn (kq1 J) kn (eret (bqr (sqr (fqr J ?_)))))))
 have ho:nd.op=14:=Odt ‹_›
 have hb0:nd.brs=[]:=by
  have g:(decide (nd.op ≠ 4) && decide (nd.op ≠ 8) && decide (nd.brs.length ≠ 0))=false:=by assumption
  have g2:nd.op=4 ∨ nd.op=8 ∨ nd.brs.length=0:=by simpa [Decidable.or_iff_not_imp_left] using g
  exact Lnl (by omega)
 have hhd:=head_done (ds:=c.decls) (fs:=c.funs) (n:=nd.n) (ty:=nd.ty) (decide_eq_true ho)
 first
 | exact sorts_post (want:=[0]) (by rw [ho];rfl) (by omega) (by omega) hb0 (hhd.trans (if_pos ⟨Odt ‹_›,Odt ‹_›⟩)) hc1 hP
 | exact none_post h0 hK1 hc1 (hhd.trans (if_neg (fun q=>by first | exact absurd q.1 (of_decide_eq_false ‹_›) | exact absurd q.1 (Bool.eq_false_iff.1 ‹_›) | exact absurd q.2 (of_decide_eq_false ‹_›) | exact absurd q.2 (Bool.eq_false_iff.1 ‹_›))))
 refine qp rfl (qp rfl (qg rfl (qp rfl (qg rfl (hlda rfl rfl (lc rfl (lc rfl (ln rfl))) (qg rfl (qp rfl (qg rfl (qp rfl (qg rfl (qp rfl (qg rfl (hbsl rfl rfl (lc rfl (ln rfl)) (qg rfl (hcall rfl rfl rfl (sorts_c _ c k i0 i1 X A (left - 1) deep nd.args [0] hza ⟨hd1,by have g:decide (4000 < deep)=false:=‹_›;simp at g;omega⟩ ⟨by have g:decide (left - 1 < 0)=false:=‹_›;simp at g;omega,by omega⟩ hK1 H1) ?_)))))))))))))))
 rintro _ S2 ⟨b,left',rfl,hP⟩
 refine pq2 J (qn (kq1 J) kn (eret (bqr (sqr (fqr J ?_)))))
 have ho:nd.op=14:=Odt ‹_›
 have hb0:nd.brs=[]:=by
  have g:(decide (nd.op ≠ 4) && decide (nd.op ≠ 8) && decide (nd.brs.length ≠ 0))=false:=by assumption
  have g2:nd.op=4 ∨ nd.op=8 ∨ nd.brs.length=0:=by simpa [Decidable.or_iff_not_imp_left] using g
  exact Lnl (by omega)
 have hhd:=head_done (ds:=c.decls) (fs:=c.funs) (n:=nd.n) (ty:=nd.ty) (decide_eq_true ho)
 first
 | exact sorts_post (want:=[0]) (by rw [ho];rfl) (by omega) (by omega) hb0 (hhd.trans (if_pos ⟨Odt ‹_›,Odt ‹_›⟩)) hc1 hP
 | exact none_post h0 hK1 hc1 (hhd.trans (if_neg (fun q=>by first | exact absurd q.1 (of_decide_eq_false ‹_›) | exact absurd q.1 (Bool.eq_false_iff.1 ‹_›) | exact absurd q.2 (of_decide_eq_false ‹_›) | exact absurd q.2 (Bool.eq_false_iff.1 ‹_›))))
 refine qp J (qn (kq6 J) (kq2 J) (ecT J (er (pq3 J (qb ?_)))))
 rintro (_ | _) h41
 refine qp J (zq3 J (pq2 J (zq8 J (pq2 J (zq8 J ?_)))))
 refine zq7 J (pq2 J (qn (kq1 J) kn (eret (bqr (sqr (fqr J ?_))))))
 have ho:nd.op=13:=Odt ‹_›
 have hb0:nd.brs=[]:=by
  have g:(decide (nd.op ≠ 4) && decide (nd.op ≠ 8) && decide (nd.brs.length ≠ 0))=false:=by assumption
  have g2:nd.op=4 ∨ nd.op=8 ∨ nd.brs.length=0:=by simpa [Decidable.or_iff_not_imp_left] using g
  exact Lnl (by omega)
 have hhd:=head_call (ds:=c.decls) (fs:=c.funs) (n:=nd.n) (ty:=nd.ty) (decide_eq_true ho)
 first
 | exact sorts_post (want:=g.params.map fun (a:Arg)=>sideOf a.co) (by rw [ho];rfl) (by omega) (by omega) hb0 ((hhd.trans (if_pos ⟨Odt ‹_›,Odt ‹_›⟩)).trans (by rw [hg];rfl)) hc1 hP
 | exact none_post h0 hK1 hc1 (hhd.trans (if_neg (fun q=>by first | exact absurd q.1 (of_decide_eq_false ‹_›) | exact absurd q.1 (Bool.eq_false_iff.1 ‹_›) | exact absurd q.2 (of_decide_eq_false ‹_›) | exact absurd q.2 (Bool.eq_false_iff.1 ‹_›))))
 | (refine none_post h0 hK1 hc1 ?_
    have q:decide (nd.n < ((c.funs.map CFun.enc).length:Int))=false:=by assumption
    have q2:decide (0 ≤ nd.n)=true:=by assumption
    rw [hhd,if_pos ⟨Odt ‹_›,Odt q2⟩,List.getElem?_eq_none (by simp at q q2;omega)]
    rfl)
 refine qp J (qg J (qp J (qg J (qp J (qg J (qp J (qb ?_)))))))
 rintro (_ | _) h42
 refine pq2 J (zq8 J (pq2 J (zq10 J (zq2 J ?_))))
 refine zq3 J (pq2 J (qn (kq1 J) kn (eret (bqr (sqr (fqr J ?_))))))
 have ho:nd.op=13:=Odt ‹_›
 have hb0:nd.brs=[]:=by
  have g:(decide (nd.op ≠ 4) && decide (nd.op ≠ 8) && decide (nd.brs.length ≠ 0))=false:=by assumption
  have g2:nd.op=4 ∨ nd.op=8 ∨ nd.brs.length=0:=by simpa [Decidable.or_iff_not_imp_left] using g
  exact Lnl (by omega)
 have hhd:=head_call (ds:=c.decls) (fs:=c.funs) (n:=nd.n) (ty:=nd.ty) (decide_eq_true ho)
 first
 | exact sorts_post (want:=g.params.map fun (a:Arg)=>sideOf a.co) (by rw [ho];rfl) (by omega) (by omega) hb0 ((hhd.trans (if_pos ⟨Odt ‹_›,Odt ‹_›⟩)).trans (by rw [hg];rfl)) hc1 hP
 | exact none_post h0 hK1 hc1 (hhd.trans (if_neg (fun q=>by first | exact absurd q.1 (of_decide_eq_false ‹_›) | exact absurd q.1 (Bool.eq_false_iff.1 ‹_›) | exact absurd q.2 (of_decide_eq_false ‹_›) | exact absurd q.2 (Bool.eq_false_iff.1 ‹_›))))
 | (refine none_post h0 hK1 hc1 ?_
    have q:decide (nd.n < ((c.funs.map CFun.enc).length:Int))=false:=by assumption
    have q2:decide (0 ≤ nd.n)=true:=by assumption
    rw [hhd,if_pos ⟨Odt ‹_›,Odt q2⟩,List.getElem?_eq_none (by simp at q q2;omega)]
    rfl)
 refine pq2 J (qg J (qp J (qg J (qp J (qg J (qp J (qg J (qp J (qg J (qp J (qg J (hldo J hK1.hk J ?_))))))))))))
 refine qg J (qp J (qg J (qp J (qb ?_))))
 rintro (_ | _) h43
 refine pq2 J (zq10 J (zq5 J (pq2 J (qn (kq1 J) kn (eret (bqr (sqr ?_)))))))
 refine fqr J ?_
 have ho:nd.op=13:=Odt ‹_›
 have hb0:nd.brs=[]:=by
  have g:(decide (nd.op ≠ 4) && decide (nd.op ≠ 8) && decide (nd.brs.length ≠ 0))=false:=by assumption
  have g2:nd.op=4 ∨ nd.op=8 ∨ nd.brs.length=0:=by simpa [Decidable.or_iff_not_imp_left] using g
  exact Lnl (by omega)
 have hhd:=head_call (ds:=c.decls) (fs:=c.funs) (n:=nd.n) (ty:=nd.ty) (decide_eq_true ho)
 first
 | exact sorts_post (want:=g.params.map fun (a:Arg)=>sideOf a.co) (by rw [ho];rfl) (by omega) (by omega) hb0 ((hhd.trans (if_pos ⟨Odt ‹_›,Odt ‹_›⟩)).trans (by rw [hg];rfl)) hc1 hP
 | exact none_post h0 hK1 hc1 (hhd.trans (if_neg (fun q=>by first | exact absurd q.1 (of_decide_eq_false ‹_›) | exact absurd q.1 (Bool.eq_false_iff.1 ‹_›) | exact absurd q.2 (of_decide_eq_false ‹_›) | exact absurd q.2 (Bool.eq_false_iff.1 ‹_›))))
 | (refine none_post h0 hK1 hc1 ?_
    have q:decide (nd.n < ((c.funs.map CFun.enc).length:Int))=false:=by assumption
    have q2:decide (0 ≤ nd.n)=true:=by assumption
    rw [hhd,if_pos ⟨Odt ‹_›,Odt q2⟩,List.getElem?_eq_none (by simp at q q2;omega)]
    rfl)
 refine pq2 J (qg J (qp J (qg J (hlda J J (lq2 J) (qg J (qp J (qg J (qp J (qg J (qp J (qg J (qp J (qg J (qp J (qg J (hldo J hK1.hk J ?_))))))))))))))))
 refine qg J (qp J (qg J (qp J (qg J ?_))))
 obtain ⟨g,hg⟩:=get_of_lt (l:=c.funs) (i:=nd.n.toNat) (by simp at *;omega)
 refine hia (y:=.agg (Str g.name :: encArgs g.params :: ints g.vars :: g.body.cs)) rfl rfl (by simp at *;omega) (by rw [Lgm,hg];simp [CFun.enc_eq]) rfl ?_
 refine qg rfl (qp rfl (qg rfl (qp rfl (qg rfl (qp rfl (qg rfl (hcall rfl rfl rfl (args_cc _ c k i0 i1 X A (left - 1) deep nd.args g.params hza (hc.ga g (Lmg hg)) ⟨hd1,by have g:decide (4000 < deep)=false:=‹_›;simp at g;omega⟩ ⟨by have g:decide (left - 1 < 0)=false:=‹_›;simp at g;omega,by omega⟩ hK1 H1) ?_)))))))
 rintro _ S2 ⟨b,left',rfl,hP⟩
 refine pq2 J (qn (kq1 J) kn (eret (bqr (sqr (fqr J ?_)))))
 have ho:nd.op=13:=Odt ‹_›
 have hb0:nd.brs=[]:=by
  have g:(decide (nd.op ≠ 4) && decide (nd.op ≠ 8) && decide (nd.brs.length ≠ 0))=false:=by assumption
  have g2:nd.op=4 ∨ nd.op=8 ∨ nd.brs.length=0:=by simpa [Decidable.or_iff_not_imp_left] using g
  exact Lnl (by omega)
 have hhd:=head_call (ds:=c.decls) (fs:=c.funs) (n:=nd.n) (ty:=nd.ty) (decide_eq_true ho)
 first
 | exact sorts_post (want:=g.params.map fun (a:Arg)=>sideOf a.co) (by rw [ho];rfl) (by omega) (by omega) hb0 ((hhd.trans (if_pos ⟨Odt ‹_›,Odt ‹_›⟩)).trans (by rw [hg];rfl)) hc1 hP
 | exact none_post h0 hK1 hc1 (hhd.trans (if_neg (fun q=>by first | exact absurd q.1 (of_decide_eq_false ‹_›) | exact absurd q.1 (Bool.eq_false_iff.1 ‹_›) | exact absurd q.2 (of_decide_eq_false ‹_›) | exact absurd q.2 (Bool.eq_false_iff.1 ‹_›))))
 | (refine none_post h0 hK1 hc1 ?_
    have q:decide (nd.n < ((c.funs.map CFun.enc).length:Int))=false:=by assumption
    have q2:decide (0 ≤ nd.n)=true:=by assumption
    rw [hhd,if_pos ⟨Odt ‹_›,Odt q2⟩,List.getElem?_eq_none (by simp at q q2;omega)]
    rfl)
 refine qp J (qn (kq6 J) (kq2 J) (ecT J (er (pq3 J (qb ?_)))))
 rintro (_ | _) h44
 refine qp J (zq3 J (pq2 J (zq7 J (pq2 J (qn (kq1 J) kn (eret (bqr (sqr (fqr J ?_)))))))))
 have ho:nd.op=12:=Odt ‹_›
 have hb0:nd.brs=[]:=by
  have g:(decide (nd.op ≠ 4) && decide (nd.op ≠ 8) && decide (nd.brs.length ≠ 0))=false:=by assumption
  have g2:nd.op=4 ∨ nd.op=8 ∨ nd.brs.length=0:=by simpa [Decidable.or_iff_not_imp_left] using g
  exact Lnl (by omega)
 have hhd:=head_emit (ds:=c.decls) (fs:=c.funs) (n:=nd.n) (ty:=nd.ty) (decide_eq_true ho)
 first
 | exact sorts_post (want:=[0,2]) (by rw [ho];rfl) (by omega) (by omega) hb0 (hhd.trans (if_pos ⟨Odt ‹_›,Odt ‹_›⟩)) hc1 hP
 | exact none_post h0 hK1 hc1 (hhd.trans (if_neg (fun q=>by first | exact absurd q.1 (of_decide_eq_false ‹_›) | exact absurd q.1 (Bool.eq_false_iff.1 ‹_›) | exact absurd q.2 (of_decide_eq_false ‹_›) | exact absurd q.2 (Bool.eq_false_iff.1 ‹_›))))
 refine qp J (qg J (qp J (qg J (qp J (qg J (qp J (qb ?_)))))))
 rintro (_ | _) h45
 refine pq2 J (zq7 J (pq2 J (qn (kq1 J) kn (eret (bqr (sqr (fqr J ?_)))))))
 have ho:nd.op=12:=Odt ‹_›
 have hb0:nd.brs=[]:=by
  have g:(decide (nd.op ≠ 4) && decide (nd.op ≠ 8) && decide (nd.brs.length ≠ 0))=false:=by assumption
  have g2:nd.op=4 ∨ nd.op=8 ∨ nd.brs.length=0:=by simpa [Decidable.or_iff_not_imp_left] using g
  exact Lnl (by omega)
 have hhd:=head_emit (ds:=c.decls) (fs:=c.funs) (n:=nd.n) (ty:=nd.ty) (decide_eq_true ho)
 first
 | exact sorts_post (want:=[0,2]) (by rw [ho];rfl) (by omega) (by omega) hb0 (hhd.trans (if_pos ⟨Odt ‹_›,Odt ‹_›⟩)) hc1 hP
 | exact none_post h0 hK1 hc1 (hhd.trans (if_neg (fun q=>by first | exact absurd q.1 (of_decide_eq_false ‹_›) | exact absurd q.1 (Bool.eq_false_iff.1 ‹_›) | exact absurd q.2 (of_decide_eq_false ‹_›) | exact absurd q.2 (Bool.eq_false_iff.1 ‹_›))))
 refine qp rfl (qp rfl (qg rfl (qp rfl (qg rfl (hlda rfl rfl (lc rfl (lc rfl (ln rfl))) (qg rfl (qp rfl (qg rfl (qp rfl (qg rfl (qp rfl (qg rfl (hbsl rfl rfl (lc rfl (lc rfl (ln rfl))) (qg rfl (hcall rfl rfl rfl (sorts_c _ c k i0 i1 X A (left - 1) deep nd.args [0,2] hza ⟨hd1,by have g:decide (4000 < deep)=false:=‹_›;simp at g;omega⟩ ⟨by have g:decide (left - 1 < 0)=false:=‹_›;simp at g;omega,by omega⟩ hK1 H1) ?_)))))))))))))))
 rintro _ S2 ⟨b,left',rfl,hP⟩
 refine pq2 J (qn (kq1 J) kn (eret (bqr (sqr (fqr J ?_)))))
 have ho:nd.op=12:=Odt ‹_›
 have hb0:nd.brs=[]:=by
  have g:(decide (nd.op ≠ 4) && decide (nd.op ≠ 8) && decide (nd.brs.length ≠ 0))=false:=by assumption
  have g2:nd.op=4 ∨ nd.op=8 ∨ nd.brs.length=0:=by simpa [Decidable.or_iff_not_imp_left] using g
  exact Lnl (by omega)
 have hhd:=head_emit (ds:=c.decls) (fs:=c.funs) (n:=nd.n) (ty:=nd.ty) (decide_eq_true ho)
 first
 | exact sorts_post (want:=[0,2]) (by rw [ho];rfl) (by omega) (by omega) hb0 (hhd.trans (if_pos ⟨Odt ‹_›,Odt ‹_›⟩)) hc1 hP
 | exact none_post h0 hK1 hc1 (hhd.trans (if_neg (fun q=>by first | exact absurd q.1 (of_decide_eq_false ‹_›) | exact absurd q.1 (Bool.eq_false_iff.1 ‹_›) | exact absurd q.2 (of_decide_eq_false ‹_›) | exact absurd q.2 (Bool.eq_false_iff.1 ‹_›))))
 refine qp J (qn (kq6 J) (kq2 J) (ecT J (er (pq3 J (qb ?_)))))
 rintro (_ | _) h46
 refine qp J (zq3 J (pq2 J (zq7 J (pq2 J (qn (kq1 J) kn (eret (bqr (sqr (fqr J ?_)))))))))
 have ho:nd.op=11:=Odt ‹_›
 have hb0:nd.brs=[]:=by
  have g:(decide (nd.op ≠ 4) && decide (nd.op ≠ 8) && decide (nd.brs.length ≠ 0))=false:=by assumption
  have g2:nd.op=4 ∨ nd.op=8 ∨ nd.brs.length=0:=by simpa [Decidable.or_iff_not_imp_left] using g
  exact Lnl (by omega)
 have hhd:=head_ifz (ds:=c.decls) (fs:=c.funs) (n:=nd.n) (ty:=nd.ty) (decide_eq_true ho)
 first
 | exact sorts_post (want:=[0,2,2]) (by rw [ho];rfl) (by omega) (by omega) hb0 (hhd.trans (if_pos ⟨Odt ‹_›,Odt ‹_›⟩)) hc1 hP
 | exact none_post h0 hK1 hc1 (hhd.trans (if_neg (fun q=>by first | exact absurd q.1 (of_decide_eq_false ‹_›) | exact absurd q.1 (Bool.eq_false_iff.1 ‹_›) | exact absurd q.2 (of_decide_eq_false ‹_›) | exact absurd q.2 (Bool.eq_false_iff.1 ‹_›))))
 refine qp J (qg J (qp J (qg J (qp J (qg J (qp J (qb ?_)))))))
 rintro (_ | _) h47
 refine pq2 J (zq7 J (pq2 J (qn (kq1 J) kn (eret (bqr (sqr (fqr J ?_)))))))
 have ho:nd.op=11:=Odt ‹_›
 have hb0:nd.brs=[]:=by
  have g:(decide (nd.op ≠ 4) && decide (nd.op ≠ 8) && decide (nd.brs.length ≠ 0))=false:=by assumption
  have g2:nd.op=4 ∨ nd.op=8 ∨ nd.brs.length=0:=by simpa [Decidable.or_iff_not_imp_left] using g
  exact Lnl (by omega)
 have hhd:=head_ifz (ds:=c.decls) (fs:=c.funs) (n:=nd.n) (ty:=nd.ty) (decide_eq_true ho)
 first
 | exact sorts_post (want:=[0,2,2]) (by rw [ho];rfl) (by omega) (by omega) hb0 (hhd.trans (if_pos ⟨Odt ‹_›,Odt ‹_›⟩)) hc1 hP
 | exact none_post h0 hK1 hc1 (hhd.trans (if_neg (fun q=>by first | exact absurd q.1 (of_decide_eq_false ‹_›) | exact absurd q.1 (Bool.eq_false_iff.1 ‹_›) | exact absurd q.2 (of_decide_eq_false ‹_›) | exact absurd q.2 (Bool.eq_false_iff.1 ‹_›))))
 refine qp rfl (qp rfl (qg rfl (qp rfl (qg rfl (hlda rfl rfl (lc rfl (lc rfl (ln rfl))) (qg rfl (qp rfl (qg rfl (qp rfl (qg rfl (qp rfl (qg rfl (hbsl rfl rfl (lc rfl (lc rfl (lc rfl (ln rfl)))) (qg rfl (hcall rfl rfl rfl (sorts_c _ c k i0 i1 X A (left - 1) deep nd.args [0,2,2] hza ⟨hd1,by have g:decide (4000 < deep)=false:=‹_›;simp at g;omega⟩ ⟨by have g:decide (left - 1 < 0)=false:=‹_›;simp at g;omega,by omega⟩ hK1 H1) ?_)))))))))))))))
 rintro _ S2 ⟨b,left',rfl,hP⟩
 refine pq2 J (qn (kq1 J) kn (eret (bqr (sqr (fqr J ?_)))))
 have ho:nd.op=11:=Odt ‹_›
 have hb0:nd.brs=[]:=by
  have g:(decide (nd.op ≠ 4) && decide (nd.op ≠ 8) && decide (nd.brs.length ≠ 0))=false:=by assumption
  have g2:nd.op=4 ∨ nd.op=8 ∨ nd.brs.length=0:=by simpa [Decidable.or_iff_not_imp_left] using g
  exact Lnl (by omega)
 have hhd:=head_ifz (ds:=c.decls) (fs:=c.funs) (n:=nd.n) (ty:=nd.ty) (decide_eq_true ho)
 first
 | exact sorts_post (want:=[0,2,2]) (by rw [ho];rfl) (by omega) (by omega) hb0 (hhd.trans (if_pos ⟨Odt ‹_›,Odt ‹_›⟩)) hc1 hP
 | exact none_post h0 hK1 hc1 (hhd.trans (if_neg (fun q=>by first | exact absurd q.1 (of_decide_eq_false ‹_›) | exact absurd q.1 (Bool.eq_false_iff.1 ‹_›) | exact absurd q.2 (of_decide_eq_false ‹_›) | exact absurd q.2 (Bool.eq_false_iff.1 ‹_›))))
 refine qp J (qn (kq6 J) (kq2 J) (ecT J (er (pq3 J (qb ?_)))))
 rintro (_ | _) h48
 refine qp J (zq3 J (pq2 J (zq3 J (pq2 J (zq7 J (pq2 J (qn (kq1 J) kn (eret (bqr ?_)))))))))
 refine sqr (fqr J ?_)
 have ho:nd.op=10:=Odt ‹_›
 have hb0:nd.brs=[]:=by
  have g:(decide (nd.op ≠ 4) && decide (nd.op ≠ 8) && decide (nd.brs.length ≠ 0))=false:=by assumption
  have g2:nd.op=4 ∨ nd.op=8 ∨ nd.brs.length=0:=by simpa [Decidable.or_iff_not_imp_left] using g
  exact Lnl (by omega)
 have hhd:=head_prim (ds:=c.decls) (fs:=c.funs) (n:=nd.n) (ty:=nd.ty) (decide_eq_true ho)
 first
 | exact sorts_post (want:=[0,0,1]) (by rw [ho];rfl) (by omega) (by omega) hb0 (hhd.trans (if_pos ⟨Odt ‹_›,Odt ‹_›,Odt ‹_›⟩)) hc1 hP
 | exact none_post h0 hK1 hc1 (hhd.trans (if_neg (fun q=>by first | exact absurd q.1 (of_decide_eq_false ‹_›) | exact absurd q.1 (Bool.eq_false_iff.1 ‹_›) | exact absurd q.2.1 (of_decide_eq_false ‹_›) | exact absurd q.2.1 (Bool.eq_false_iff.1 ‹_›) | exact absurd q.2.2 (of_decide_eq_false ‹_›) | exact absurd q.2.2 (Bool.eq_false_iff.1 ‹_›))))
 refine qp J (qg J (qp J (qg J (qp J (qg J (qp J (qb ?_)))))))
 rintro (_ | _) h49
 refine pq2 J (zq3 J (pq2 J (zq7 J (pq2 J (qn (kq1 J) kn (eret (bqr (sqr (fqr J ?_)))))))))
 have ho:nd.op=10:=Odt ‹_›
 have hb0:nd.brs=[]:=by
  have g:(decide (nd.op ≠ 4) && decide (nd.op ≠ 8) && decide (nd.brs.length ≠ 0))=false:=by assumption
  have g2:nd.op=4 ∨ nd.op=8 ∨ nd.brs.length=0:=by simpa [Decidable.or_iff_not_imp_left] using g
  exact Lnl (by omega)
 have hhd:=head_prim (ds:=c.decls) (fs:=c.funs) (n:=nd.n) (ty:=nd.ty) (decide_eq_true ho)
 first
 | exact sorts_post (want:=[0,0,1]) (by rw [ho];rfl) (by omega) (by omega) hb0 (hhd.trans (if_pos ⟨Odt ‹_›,Odt ‹_›,Odt ‹_›⟩)) hc1 hP
 | exact none_post h0 hK1 hc1 (hhd.trans (if_neg (fun q=>by first | exact absurd q.1 (of_decide_eq_false ‹_›) | exact absurd q.1 (Bool.eq_false_iff.1 ‹_›) | exact absurd q.2.1 (of_decide_eq_false ‹_›) | exact absurd q.2.1 (Bool.eq_false_iff.1 ‹_›) | exact absurd q.2.2 (of_decide_eq_false ‹_›) | exact absurd q.2.2 (Bool.eq_false_iff.1 ‹_›))))
 refine pq2 J (qg J (qp J (qg J (qp J (qg J (qp J (qb ?_)))))))
 rintro (_ | _) h50
 refine pq2 J (zq7 J (pq2 J (qn (kq1 J) kn (eret (bqr (sqr (fqr J ?_)))))))
 have ho:nd.op=10:=Odt ‹_›
 have hb0:nd.brs=[]:=by
  have g:(decide (nd.op ≠ 4) && decide (nd.op ≠ 8) && decide (nd.brs.length ≠ 0))=false:=by assumption
  have g2:nd.op=4 ∨ nd.op=8 ∨ nd.brs.length=0:=by simpa [Decidable.or_iff_not_imp_left] using g
  exact Lnl (by omega)
 have hhd:=head_prim (ds:=c.decls) (fs:=c.funs) (n:=nd.n) (ty:=nd.ty) (decide_eq_true ho)
 first
 | exact sorts_post (want:=[0,0,1]) (by rw [ho];rfl) (by omega) (by omega) hb0 (hhd.trans (if_pos ⟨Odt ‹_›,Odt ‹_›,Odt ‹_›⟩)) hc1 hP
 | exact none_post h0 hK1 hc1 (hhd.trans (if_neg (fun q=>by first | exact absurd q.1 (of_decide_eq_false ‹_›) | exact absurd q.1 (Bool.eq_false_iff.1 ‹_›) | exact absurd q.2.1 (of_decide_eq_false ‹_›) | exact absurd q.2.1 (Bool.eq_false_iff.1 ‹_›) | exact absurd q.2.2 (of_decide_eq_false ‹_›) | exact absurd q.2.2 (Bool.eq_false_iff.1 ‹_›))))
 refine qp rfl (qp rfl (qg rfl (qp rfl (qg rfl (hlda rfl rfl (lc rfl (lc rfl (ln rfl))) (qg rfl (qp rfl (qg rfl (qp rfl (qg rfl (qp rfl (qg rfl (hbsl rfl rfl (lc rfl (lc rfl (lc rfl (ln rfl)))) (qg rfl (hcall rfl rfl rfl (sorts_c _ c k i0 i1 X A (left - 1) deep nd.args [0,0,1] hza ⟨hd1,by have g:decide (4000 < deep)=false:=‹_›;simp at g;omega⟩ ⟨by have g:decide (left - 1 < 0)=false:=‹_›;simp at g;omega,by omega⟩ hK1 H1) ?_)))))))))))))))
 rintro _ S2 ⟨b,left',rfl,hP⟩
 refine pq2 J (qn (kq1 J) kn (eret (bqr (sqr (fqr J ?_)))))
 have ho:nd.op=10:=Odt ‹_›
 have hb0:nd.brs=[]:=by
  have g:(decide (nd.op ≠ 4) && decide (nd.op ≠ 8) && decide (nd.brs.length ≠ 0))=false:=by assumption
  have g2:nd.op=4 ∨ nd.op=8 ∨ nd.brs.length=0:=by simpa [Decidable.or_iff_not_imp_left] using g
  exact Lnl (by omega)
 have hhd:=head_prim (ds:=c.decls) (fs:=c.funs) (n:=nd.n) (ty:=nd.ty) (decide_eq_true ho)
 first
 | exact sorts_post (want:=[0,0,1]) (by rw [ho];rfl) (by omega) (by omega) hb0 (hhd.trans (if_pos ⟨Odt ‹_›,Odt ‹_›,Odt ‹_›⟩)) hc1 hP
 | exact none_post h0 hK1 hc1 (hhd.trans (if_neg (fun q=>by first | exact absurd q.1 (of_decide_eq_false ‹_›) | exact absurd q.1 (Bool.eq_false_iff.1 ‹_›) | exact absurd q.2.1 (of_decide_eq_false ‹_›) | exact absurd q.2.1 (Bool.eq_false_iff.1 ‹_›) | exact absurd q.2.2 (of_decide_eq_false ‹_›) | exact absurd q.2.2 (Bool.eq_false_iff.1 ‹_›))))
 refine qp J (qn (kq7 J) (kq2 J) (ecT J (er (pq3 J (qb ?_)))))
 rintro (_ | _) h51
 refine qp J (zq1 J (pq2 J (zq7 J (pq2 J (qn (kq1 J) kn (eret (bqr (sqr (fqr J ?_)))))))))
 have ho:nd.op=9:=Odt ‹_›
 have hb0:nd.brs=[]:=by
  have g:(decide (nd.op ≠ 4) && decide (nd.op ≠ 8) && decide (nd.brs.length ≠ 0))=false:=by assumption
  have g2:nd.op=4 ∨ nd.op=8 ∨ nd.brs.length=0:=by simpa [Decidable.or_iff_not_imp_left] using g
  exact Lnl (by omega)
 have hhd:=head_cut (ds:=c.decls) (fs:=c.funs) (n:=nd.n) (ty:=nd.ty) (decide_eq_true ho)
 first
 | exact sorts_post (want:=[0,1]) (by rw [ho];rfl) (by omega) (by omega) hb0 (hhd.trans (if_pos ⟨‹_›,Odt ‹_›⟩)) hc1 hP
 | exact none_post h0 hK1 hc1 (hhd.trans (if_neg (fun q=>by first | exact absurd q.1 (of_decide_eq_false ‹_›) | exact absurd q.1 (Bool.eq_false_iff.1 ‹_›) | exact absurd q.2 (of_decide_eq_false ‹_›) | exact absurd q.2 (Bool.eq_false_iff.1 ‹_›))))
 refine qp J (qg J (qp J (qb ?_)))
 rintro (_ | _) h52
 refine pq2 J (zq7 J (pq2 J (qn (kq1 J) kn (eret (bqr (sqr (fqr J ?_)))))))
 have ho:nd.op=9:=Odt ‹_›
 have hb0:nd.brs=[]:=by
  have g:(decide (nd.op ≠ 4) && decide (nd.op ≠ 8) && decide (nd.brs.length ≠ 0))=false:=by assumption
  have g2:nd.op=4 ∨ nd.op=8 ∨ nd.brs.length=0:=by simpa [Decidable.or_iff_not_imp_left] using g
  exact Lnl (by omega)
 have hhd:=head_cut (ds:=c.decls) (fs:=c.funs) (n:=nd.n) (ty:=nd.ty) (decide_eq_true ho)
 first
 | exact sorts_post (want:=[0,1]) (by rw [ho];rfl) (by omega) (by omega) hb0 (hhd.trans (if_pos ⟨‹_›,Odt ‹_›⟩)) hc1 hP
 | exact none_post h0 hK1 hc1 (hhd.trans (if_neg (fun q=>by first | exact absurd q.1 (of_decide_eq_false ‹_›) | exact absurd q.1 (Bool.eq_false_iff.1 ‹_›) | exact absurd q.2 (of_decide_eq_false ‹_›) | exact absurd q.2 (Bool.eq_false_iff.1 ‹_›))))
 refine qp rfl (qp rfl (qg rfl (qp rfl (qg rfl (hlda rfl rfl (lc rfl (lc rfl (ln rfl))) (qg rfl (qp rfl (qg rfl (qp rfl (qg rfl (qp rfl (qg rfl (hbsl rfl rfl (lc rfl (lc rfl (ln rfl))) (qg rfl (hcall rfl rfl rfl (sorts_c _ c k i0 i1 X A (left - 1) deep nd.args [0,1] hza ⟨hd1,by have g:decide (4000 < deep)=false:=‹_›;simp at g;omega⟩ ⟨by have g:decide (left - 1 < 0)=false:=‹_›;simp at g;omega,by omega⟩ hK1 H1) ?_)))))))))))))))
 rintro _ S2 ⟨b,left',rfl,hP⟩
 refine pq2 J (qn (kq1 J) kn (eret (bqr (sqr (fqr J ?_)))))
 have ho:nd.op=9:=Odt ‹_›
 have hb0:nd.brs=[]:=by
  have g:(decide (nd.op ≠ 4) && decide (nd.op ≠ 8) && decide (nd.brs.length ≠ 0))=false:=by assumption
  have g2:nd.op=4 ∨ nd.op=8 ∨ nd.brs.length=0:=by simpa [Decidable.or_iff_not_imp_left] using g
  exact Lnl (by omega)
 have hhd:=head_cut (ds:=c.decls) (fs:=c.funs) (n:=nd.n) (ty:=nd.ty) (decide_eq_true ho)
 first
 | exact sorts_post (want:=[0,1]) (by rw [ho];rfl) (by omega) (by omega) hb0 (hhd.trans (if_pos ⟨‹_›,Odt ‹_›⟩)) hc1 hP
 | exact none_post h0 hK1 hc1 (hhd.trans (if_neg (fun q=>by first | exact absurd q.1 (of_decide_eq_false ‹_›) | exact absurd q.1 (Bool.eq_false_iff.1 ‹_›) | exact absurd q.2 (of_decide_eq_false ‹_›) | exact absurd q.2 (Bool.eq_false_iff.1 ‹_›))))
 refine qp J (qn (kq7 J) (kq2 J) (ecT J (er (pq3 J (qb ?_)))))
 rintro (_ | _) h53
 refine qp J (zq4 J (pq2 J (qn (kq1 J) kn (eret (bqr (sqr (fqr J ?_)))))))
 have ho:nd.op=1:=Odt ‹_›
 have hl:leafOp nd.op=true:=by rw [ho];rfl
 have hb0:nd.brs=[]:=by
  have g:(decide (nd.op ≠ 4) && decide (nd.op ≠ 8) && decide (nd.brs.length ≠ 0))=false:=by assumption
  have g2:nd.op=4 ∨ nd.op=8 ∨ nd.brs.length=0:=by simpa [Decidable.or_iff_not_imp_left] using g
  exact Lnl (by omega)
 have hhd:=head_int (ds:=c.decls) (fs:=c.funs) (n:=nd.n) (ty:=nd.ty) (decide_eq_true ho)
 have hl0:0 ≤ left - 1:=by have g:decide (left - 1 < 0)=false:=‹_›;simpa using g
 have hd0:deep ≤ 4000:=by have g:decide (4000 < deep)=false:=‹_›;simpa using g
 first
 | exact none_post h0 hK1 hc1 (hhd.trans (if_neg (fun q=>by first | exact absurd q (of_decide_eq_false ‹_›) | exact absurd q (Bool.eq_false_iff.1 ‹_›))))
 | (refine leaf_post hl hl0 hd0 hK1 hc1 ?_
    have hh2:=hhd.trans (if_pos (Odt ‹_›))
    rw [vN_eq,hh2,hb0]
    simp [vNs_nil,vBs_nil,ho])
 refine qp J (qg J (qp J (qg J (qp J (qg J (qp J (qg J (pq3 J (qn (kq1 J) kn (eret (bqr (sqr (fqr J ?_)))))))))))))
 have ho:nd.op=1:=Odt ‹_›
 have hl:leafOp nd.op=true:=by rw [ho];rfl
 have hb0:nd.brs=[]:=by
  have g:(decide (nd.op ≠ 4) && decide (nd.op ≠ 8) && decide (nd.brs.length ≠ 0))=false:=by assumption
  have g2:nd.op=4 ∨ nd.op=8 ∨ nd.brs.length=0:=by simpa [Decidable.or_iff_not_imp_left] using g
  exact Lnl (by omega)
 have hhd:=head_int (ds:=c.decls) (fs:=c.funs) (n:=nd.n) (ty:=nd.ty) (decide_eq_true ho)
 have hl0:0 ≤ left - 1:=by have g:decide (left - 1 < 0)=false:=‹_›;simpa using g
 have hd0:deep ≤ 4000:=by have g:decide (4000 < deep)=false:=‹_›;simpa using g
 first
 | exact none_post h0 hK1 hc1 (hhd.trans (if_neg (fun q=>by first | exact absurd q (of_decide_eq_false ‹_›) | exact absurd q (Bool.eq_false_iff.1 ‹_›))))
 | (refine leaf_post hl hl0 hd0 hK1 hc1 ?_
    have hh2:=hhd.trans (if_pos (Odt ‹_›))
    rw [vN_eq,hh2,hb0]
    simp [vNs_nil,vBs_nil,ho])
 refine qp J (qn (kq5 J) (kq2 J) (ecT J (er (qp J (qn (kq1 J) kn (eret (sqr (fqr J (no_post h0 hK1 hc1 fun h=>?_)))))))))
 have n1:=nNodes_pos nd
 have d1:=nDepth_pos nd
 have h2:=h.2.1
 have h3:=h.2.2
 first
 | (have g:decide (left - 1 < 0)=true:=by assumption
    simp at g;omega)
 | (have g:decide (4000 < deep)=true:=by assumption
    simp at g;omega)
 refine qp J (zq2 J (qp J (qn (kq5 J) (kq2 J) (ecT J (er (qp J (qn (kq1 J) kn (eret (sqr (fqr J (no_post h0 hK1 hc1 fun h=>?_)))))))))))
 have n1:=nNodes_pos nd
 have d1:=nDepth_pos nd
 have h2:=h.2.1
 have h3:=h.2.2
 first
 | (have g:decide (left - 1 < 0)=true:=by assumption
    simp at g;omega)
 | (have g:decide (4000 < deep)=true:=by assumption
    simp at g;omega)
 all_goals
  have ho:nd.op=4 ∨ nd.op=8:=Odt ‹_›
  have hhd:=head_match (op:=nd.op) (ds:=c.decls) (fs:=c.funs) (n:=nd.n) (ty:=nd.ty) (by rcases ho with h | h <;> simp [h])
  first
  | (rw [hda] at hhd
     exact brs_post ho ha (hhd.trans (if_pos ⟨by have g:(d.codata == decide (nd.op=4))=true:=‹_›;simpa using g,Odt ‹_›⟩)) hc1 hP)
  | (refine no_post h0 hK1 hc1 fun h=>?_
     obtain ⟨want,xs,e1,e2,_⟩:=vN_some h.1
     rw [hhd] at e1
     split at e1
     ·rename_i d' hd'
      split at e1
      ·rename_i q
       simp only [Oie,Pie] at e1
       obtain ⟨rfl,rfl⟩:=e1
       have hbd:=declAt_bounds hd'
       first
       | exact absurd q.2 (of_decide_eq_false ‹_›)
       | (have g:decide (((nd.args.map Node.enc).length:Int)=0)=false:=‹_›;have:=vNs_len e2
          simp at this
          simp [this] at g;done)
       | (have g:decide (1 ≤ nd.ty)=false:=‹_›;simp at g;omega)
       | (have g:typedOk c.decls nd.ty=false:=‹_›;simp [typedOk] at g;omega)
       | (have g:(d.codata == decide (nd.op=4))=false:=‹_›;rw [hda] at hd'
          cases hd'
          rw [q.1] at g
          simp at g)
      cases e1
     cases e1)
theorem valid_c (c:Core) (hc:CoreSz c) (a:Node):a.sz ≤ 2 ^ 40 → VC c a:=by
 induction a using Node.ind with
 | h a h1 h2 =>
   intro hz s k i0 i1 X A left deep hK h0 h00 hd1 hd2
   exact valid_c0 c hc a hz (fun b hb=>h1 b hb (by have:=Node.sz_arg hb;omega)) (fun b hb=>h2 b hb (by have:=Node.sz_br hb;have:=b.sz_body;omega)) s k i0 i1 X A left deep hK h0 h00 hd1 hd2
end Go.Sim.Kd
namespace Go.Sim.Kd
open Go Go.Sim
theorem take_map3 {α:Type} {g:α → Bool} {l:List α} {i:Nat} {a:α} (ha:l[i]?=some a):((l.take i).map g).map B ++ [B (g a)]=((l.take (i + 1)).map g).map B:=by simp [List.take_add_one,ha]
theorem vN_all (ds:List Decl) (fs:List CFun) (a:Node):∀ X A:Int → Bool,vN ds fs a X A=true → nAll a=nNodes a:=by
 induction a using Node.ind with
 | h a h1 h2 =>
   intro X A h
   obtain ⟨want,xs,hh,e1,e2,_⟩:=vN_some h
   have k1:∀ (l:List Node) (ws:List Int) (X A:Int → Bool),(∀ b ∈ l,b ∈ a.args) → vNs ds fs l ws X A=true → szL nAll l=szL nNodes l:=by
    intro l
    induction l with
    | nil=>intros;rfl
    | cons b l ih =>
      intro ws X A hm hv
      cases ws with
      | nil=>simp [vNs] at hv
      | cons w ws =>
        simp only [vNs,Bae] at hv
        simp only [szL]
        rw [h1 b (hm b (by simp)) X A hv.1.2,ih ws X A (fun q hq=>hm q (by simp [hq])) hv.2]
   have k2:∀ (l:List Br) (ws:List Xtor) (X A:Int → Bool),(∀ b ∈ l,b ∈ a.brs) → vBs ds fs l ws X A=true → szL (fun b=>nAll b.body) l=szL (fun b=>nNodes b.body) l:=by
    intro l
    induction l with
    | nil=>intros;rfl
    | cons b l ih =>
      intro ws X A hm hv
      cases ws with
      | nil=>simp [vBs] at hv
      | cons w ws =>
        simp only [vBs,vB_eq,Bae] at hv
        simp only [szL]
        rw [h2 b (hm b (by simp)) _ _ hv.1.2,ih ws X A (fun q hq=>hm q (by simp [hq])) hv.2]
   rw [nAll_eq,nNodes_eq]
   have e3:=k1 a.args want _ _ (fun _ h=>h) e1
   have e4:=k2 a.brs xs _ _ (fun _ h=>h) e2
   split
   ·rename_i hl
    have l1:=vNs_len e1
    have l2:=vBs_len e2
    have hw:want=[] ∧ xs=[]:=by
     simp only [leafOp,Bool.or_eq_true,Dte] at hl
     by_cases ho:a.op=0 ∨ a.op=5
     ·rw [head_var (decide_eq_true ho)] at hh
      split at hh
      ·simp only [Oie,Pie] at hh;exact ⟨hh.1.symm,hh.2.symm⟩
      cases hh
     have ho1:a.op=1:=by omega
     rw [head_int (decide_eq_true ho1)] at hh
     split at hh
     ·simp only [Oie,Pie] at hh;exact ⟨hh.1.symm,hh.2.symm⟩
     cases hh
    rw [hw.1] at l1
    rw [hw.2] at l2
    rw [Lnl l1,Lnl l2]
    rfl
   rw [e3,e4]
def pScope (w:Bool) (g:CFun):Int → Bool:=addsV w (fun _=>false) g.vars (g.params.map fun a=>a.co)
theorem addsV_par (w:Bool):∀ (ps:List Arg) (vs:List Int) (X:Int → Bool) (n:Int),vs.length=ps.length → addsV w X vs (ps.map fun a=>a.co) n=(X n || (parOf w (ps.zip vs)).any fun v=>decide (n=v))
 | [],[],X,n,_=>by simp [addsV,parOf]
 | [],_ :: _,X,n,h=>by simp at h
 | _ :: _,[],X,n,h=>by simp at h
 | a :: ps,v :: vs,X,n,h=>by
   rw [List.map_cons,addsV,List.headD_cons,List.tail_cons,addsV_par w ps vs _ n (by simpa using h)]
   simp only [parOf,List.zip_cons_cons,List.filter_cons]
   by_cases hc:a.co=w
   ·simp only [hc,if_true,beq_self_eq_true,List.map_cons,List.any_cons,addV]
    cases decide (n=v) <;> cases X n <;> simp
   have:(a.co == w)=false:=by simpa using hc
   simp [hc,this]
theorem pScope_eq (w:Bool) (g:CFun) (h:g.vars.length=g.params.length):pScope w g=bodyScope w g:=by
 funext n
 unfold pScope bodyScope
 rw [addsV_par w _ _ _ _ h,addAll_pos _ Bn_zero]
 simp [pos]
def BodP (c:Core) (l:List CFun) (left:Int):Prop:=(∀ g ∈ l,sortOf g.body.op=2 ∧ vN c.decls c.funs g.body (pScope false g) (pScope true g)=true ∧ nDepth g.body ≤ 4000) ∧ (szL (fun g=>nNodes g.body) l:Int) ≤ left
theorem bod_cons {c:Core} {g:CFun} {l:List CFun} {left:Int} (h:sortOf g.body.op=2 ∧ vN c.decls c.funs g.body (pScope false g) (pScope true g)=true ∧ (nNodes g.body:Int) ≤ left ∧ 1 + (nDepth g.body:Int) ≤ 4001):BodP c (g :: l) left ↔ BodP c l (left - nNodes g.body):=by
 obtain ⟨h1,h2,h3,h4⟩:=h
 simp only [BodP,szL,List.mem_cons,forall_eq_or_imp]
 constructor
 ·rintro ⟨⟨_,a⟩,b⟩;exact ⟨a,by omega⟩
 rintro ⟨a,b⟩;exact ⟨⟨⟨h1,h2,by omega⟩,a⟩,by omega⟩
theorem bod_no {c:Core} {g:CFun} {l:List CFun} {left:Int} (h:BodP c (g :: l) left):sortOf g.body.op=2 ∧ vN c.decls c.funs g.body (pScope false g) (pScope true g)=true ∧ (nNodes g.body:Int) ≤ left ∧ 1 + (nDepth g.body:Int) ≤ 4001:=by
 obtain ⟨a,b⟩:=h
 have q:=a g (by simp)
 simp only [szL] at b
 exact ⟨q.1,q.2.1,by omega,by omega⟩
theorem szL_le_mem {l:List CFun} {g:CFun} (h:g ∈ l):nNodes g.body ≤ szL (fun g=>nNodes g.body) l:=szL_mem (f:=fun (g:CFun)=>nNodes g.body) h
theorem coreOk_iff (c:Core):coreOk c=true ↔ declsValid c.decls=true ∧ headsOk c=true ∧ BodP c c.funs 30000:=by
 simp only [coreOk,Bae,Dte,List.all_eq_true,bodyOk,BodP]
 constructor
 ·rintro ⟨⟨⟨h1,h2⟩,h3⟩,h4⟩
  refine ⟨h1,h2,fun g hg=>?_,by omega⟩
  have hp:=headsOk_mem h2 g hg
  obtain ⟨⟨⟨_,a2⟩,a3⟩,a4⟩:=h3 g hg
  rw [pScope_eq _ _ hp.2,pScope_eq _ _ hp.2]
  exact ⟨a3,a4,a2⟩
 rintro ⟨h1,h2,h3,h4⟩
 refine ⟨⟨⟨h1,h2⟩,fun g hg=>?_⟩,by omega⟩
 have hp:=headsOk_mem h2 g hg
 obtain ⟨a1,a2,a3⟩:=h3 g hg
 have hm:=szL_le_mem hg
 have ha:=vN_all _ _ _ _ _ a2
 rw [pScope_eq _ _ hp.2,pScope_eq _ _ hp.2] at a2
 exact ⟨⟨⟨by omega,a3⟩,a1⟩,a2⟩
theorem cV_l2 {x3 x4:AV} {cs6:List AV} (c:Core) (k:Nat) (l:List Arg) (o:Own) (i:Nat) (hi:i ≤ l.length) (hs:l.length ≤ 2 ^ 40) {x37 x38 x39:AV} {n:Nat} {v:Nat → Bool} {D:List (Nat × List AV)} {S:Sg} {Q:Ex → Fr → Prop}
 (hlv:Can o v) (hX:∀ j n' v' o',(l.drop i).all (parOk c.decls.length k)=true → Q (.exit 2) ⟨upd (uv (uv (uv (upd (uv (uv (uv (uv (uv (uv (uv (uv e0 76 (B false)) 75 (I j)) 74 (I (l.map Arg.enc).length)) 73 (.slice .none 2 (l.map Arg.enc))) 39 (x39)) 38 (x38)) 37 (x37)) 7 (.slice o' 1 ((l.map (fun (a:Arg)=>a.co)).map B))) 6 (some (.loc 6 0))) 5 (I k)) 4 (x4)) 3 (x3)) 1 (some (.loc 1 0)),upd (upd ((fun _=>none)) 6 (some (cs6))) 1 (some (Core.cs c)),n',v',D,S⟩) (hR:∀ n' v',(l.drop i).all (parOk c.decls.length k)=false → Q .ret ⟨uv e0 2 (B false),(fun _=>none),n',v',D,S⟩):EX (callL p) (.loop F19_l2) ⟨upd (uv (uv (uv (upd (uv (uv (uv (uv (uv (uv (uv e0 75 (I i)) 74 (I (l.map Arg.enc).length)) 73 (.slice .none 2 (l.map Arg.enc))) 39 (x39)) 38 (x38)) 37 (x37)) 7 (.slice o 1 (((l.take i).map (fun (a:Arg)=>a.co)).map B))) 6 (some (.loc 6 0))) 5 (I k)) 4 (x4)) 3 (x3)) 1 (some (.loc 1 0)),upd (upd ((fun _=>none)) 6 (some (cs6))) 1 (some (Core.cs c)),n,v,D,S⟩ Q:=by
 refine eloop (er (qp J (qb ?_)))
 rintro (_ | _) h1
 refine qn (kq13 J) (kq2 J) (eseq (ecF J (eexit (sqx ?_))))
 have e:l.take i=l:=List.take_of_length_le (by simp at h1 ⊢;omega)
 rw [e]
 exact hX _ _ _ _ (by rw [List.drop_eq_nil_of_le (by simp at h1 ⊢;omega)];rfl)
 refine qn (kq13 J) (kq2 J) (eseq (ecT J (eskip (sqn (eseq (eblock (er ?_)))))))
 have hlt:i < l.length:=by simpa using h1
 obtain ⟨a,ha⟩:=get_of_lt hlt
 have hd:=drop_cons ha
 refine hia (y:=Arg.enc a) rfl rfl (by omega) (by simp [ha]) rfl (hlda rfl rfl (lc rfl (lc rfl (ln rfl))) (hal (dc (dc (dc (dc (dc (dc (dc (dc (dc (dc (dc (dc (dc (dc (dc dn rfl) rfl) rfl) rfl) rfl) rfl) rfl) rfl) rfl) rfl) rfl) rfl) rfl) rfl) rfl) (hstl rfl rfl rfl rfl (Nlb rfl) (lc rfl (lc rfl (ln rfl))) (qk (kc rfl (kc rfl (kc rfl (kc rfl (kc rfl (kc rfl (kc rfl (kc rfl (kc rfl (kc rfl (kc rfl (kc rfl (kc rfl kn))))))))))))) (kc rfl (kc rfl (kc rfl kn))) (sqn (eseq (eseq (ereg (qp rfl (qp rfl (qp rfl (qb ?_))))))))))))
 rintro (_ | _) h2
 refine qp J (qg J (qp J (qg J (qp J (qg J (qp J (qg J (qp J (qg J (qp J (qg J (qp J (qb ?_)))))))))))))
 rintro (_ | _) h3
 refine pq2 J (qg J (qp J (qg J (qp J (qb ?_)))))
 rintro (_ | _) h4
 refine qg rfl (qp rfl (zq7 rfl (qg rfl (pq2 rfl (qn (kq14 rfl) (kq3 rfl) (ecF rfl (eskip (sqn (ereg (pq3 rfl (hbsl rfl rfl (lq1 rfl) (hapC rfl rfl hlv (by simp) (by simp;omega) (take_map3 ha) ?_))))))))))))
 rotate_left
 refine qg J (qp J (qg J (qp J (qg J (qp J (qb ?_))))))
 rintro (_ | _) h5
 refine qg J (qp J (qg J (qp J (qg J (qp J (qg J (qp J (qb ?_))))))))
 rintro (_ | _) h6
 refine qg rfl (qp rfl (qg rfl (pq2 rfl (qn (kq14 rfl) (kq3 rfl) (ecF rfl (eskip (sqn (ereg (pq3 rfl (hbsl rfl rfl (lq1 rfl) (hapC rfl rfl hlv (by simp) (by simp;omega) (take_map3 ha) ?_)))))))))))
 rotate_left
 refine qg J (qp J (qg J (pq2 J (qn (kq14 J) (kq3 J) (ecT J (er (qp J (qn (kq1 J) kn (eret (sqr (bqr (sqr ?_))))))))))))
 have e:parOk c.decls.length k a=false:=by
  clear hX hR
  simp_all [parOk,-List.all_eq_true,-List.all_eq_false,-List.any_eq_true,-List.any_eq_false] <;> omega
 exact hR _ _ (by rw [hd,List.all_cons,e,Bfa])
 refine qg J (qp J (zq3 J (qg J (qp J (qg J (pq2 J (qn (kq14 J) (kq3 J) (ecT J (er (qp J (qn (kq1 J) kn (eret (sqr (bqr (sqr ?_)))))))))))))))
 have e:parOk c.decls.length k a=false:=by
  clear hX hR
  simp_all [parOk,-List.all_eq_true,-List.all_eq_false,-List.any_eq_true,-List.any_eq_false] <;> omega
 exact hR _ _ (by rw [hd,List.all_cons,e,Bfa])
 refine pq2 J (zq10 J (zq1 J (qp J (qn (kq14 J) (kq3 J) (ecT J (er (qp J (qn (kq1 J) kn (eret (sqr ?_))))))))))
 refine bqr (sqr ?_)
 have e:parOk c.decls.length k a=false:=by
  clear hX hR
  simp_all [parOk,-List.all_eq_true,-List.all_eq_false,-List.any_eq_true,-List.any_eq_false] <;> omega
 exact hR _ _ (by rw [hd,List.all_cons,e,Bfa])
 refine qp J (zq6 J (pq2 J (zq10 J (zq1 J (qp J (qn (kq14 J) (kq3 J) (ecT J ?_)))))))
 refine er (qp J (qn (kq1 J) kn (eret (sqr (bqr (sqr ?_))))))
 have e:parOk c.decls.length k a=false:=by
  clear hX hR
  simp_all [parOk,-List.all_eq_true,-List.all_eq_false,-List.any_eq_true,-List.any_eq_false] <;> omega
 exact hR _ _ (by rw [hd,List.all_cons,e,Bfa])
 all_goals
  intro v' hv1 hv2
  refine qp J (qk (kq12 J) (kq2 J) (bqn (sqn (ereg (hadd J J (i64w (by omega)) (qp J (qk (kq12 J) (kq2 J) ?_)))))))
  have e:parOk c.decls.length k a=true:=by
   clear hX hR
   simp_all [parOk,-List.all_eq_true,-List.all_eq_false,-List.any_eq_true,-List.any_eq_false] <;> omega
  exact cV_l2 c k l (.tip n) (i + 1) (by omega) hs hv1 (fun j n' v' o' h=>hX j n' v' o' (by rw [hd,List.all_cons,e,h];rfl)) (fun n' v' h=>hR n' v' (by rw [hd,List.all_cons,h,Bool.and_false]))
termination_by l.length - i
decreasing_by all_goals omega
theorem cV_l1 {pm:Nat} (c:Core) (l:List CFun) (hpar:∀ g ∈ l,g.params.length ≤ 2 ^ 40) (hfv:∀ g ∈ l,g.vars.length ≤ 2 ^ 40) (k:Nat) (i:Nat) (hi:i ≤ l.length) (hs:l.length ≤ 2 ^ 40) {n:Nat} {v:Nat → Bool} {D:List (Nat × List AV)} {S:Sg} {Q:Ex → Fr → Prop}
 (hml:pm < S.nx) (hM:S.ob pm=some (.map .str (setS ((l.take i).map CFun.name)))) (hQ:QOK S) (hX:∀ n' v' j S',funsOk c.decls.length i ((l.take i).map CFun.name) (l.drop i)=true → Chg (·=pm) S S' → Q (.exit 0) ⟨upd (uv (uv (uv (uv (uv (uv e0 40 (B false)) 39 (I j)) 38 (I (l.map CFun.enc).length)) 37 (.slice .none 8 (l.map CFun.enc))) 4 (.ptr k 0)) 3 (.map pm)) 1 (some (.loc 1 0)),upd ((fun _=>none)) 1 (some (Core.cs c)),n',v',D,S'⟩)
 (hR:∀ n' v' S',funsOk c.decls.length i ((l.take i).map CFun.name) (l.drop i)=false → Chg (·=pm) S S' → Q .ret ⟨uv e0 2 (B false),(fun _=>none),n',v',D,S'⟩):EX (callL p) (.loop F19_l1) ⟨upd (uv (uv (uv (uv (uv e0 39 (I i)) 38 (I (l.map CFun.enc).length)) 37 (.slice .none 8 (l.map CFun.enc))) 4 (.ptr k 0)) 3 (.map pm)) 1 (some (.loc 1 0)),upd ((fun _=>none)) 1 (some (Core.cs c)),n,v,D,S⟩ Q:=by
 refine eloop (er (qp J (qb ?_)))
 rintro (_ | _) h1
 refine qn (kq7 J) (kq1 J) (eseq (ecF J (eexit (sqx ?_))))
 exact hX _ _ _ _ (by rw [List.drop_eq_nil_of_le (by simp at h1 ⊢;omega)];rfl) (Chg.refl _)
 refine qn (kq7 J) (kq1 J) (eseq (ecT J (eskip (sqn (eseq (eblock (er (qp J ?_))))))))
 have hlt:i < l.length:=by simpa using h1
 obtain ⟨a,ha⟩:=get_of_lt hlt
 have hd:=drop_cons ha
 refine hia (y:=.agg (Str a.name :: encArgs a.params :: ints a.vars :: a.body.cs)) rfl rfl (by omega) (by simp [ha,Node.enc_eq,Br.enc_eq,CFun.enc_eq]) rfl (hlda rfl rfl (lc rfl (lc rfl (lc rfl (lc rfl (lc rfl (lc rfl (lc rfl (lc rfl (ln rfl))))))))) (hal (dc (dc (dc (dc (dc (dc (dc (dc (dc (dc dn rfl) rfl) rfl) rfl) rfl) rfl) rfl) rfl) rfl) rfl) (qp rfl (hstl rfl rfl rfl rfl (Nlb rfl) (lc rfl (lc rfl (lc rfl (lc rfl (lc rfl (lc rfl (lc rfl (lc rfl (ln rfl))))))))) (qk (kc rfl (kc rfl (kc rfl (kc rfl (kc rfl (kc rfl (kc rfl (kc rfl kn)))))))) (kc rfl (kc rfl kn)) (sqn (eseq (eseq (ereg (qp rfl (qp rfl (hcall rfl rfl rfl (dName_c _ hQ a.name) ?_))))))))))))
 rintro _ _ ⟨rfl,hq⟩
 obtain rfl:=hq.symm
 refine qb ?_
 rintro (_ | _) h2
 refine pq2 J (zq4 J (pq2 J (zq4 J (pq2 J (zq7 J (qp J (qn (kq9 J) (kq2 J) ?_)))))))
 refine ecT J (er (qp J (qn (kq1 J) kn (eret (sqr (bqr (sqr ?_)))))))
 rotate_left
 refine pq2 J (qg J (qp J (qg J (qp J (qg J (qp J (qg J (hlk J J J hM ?_))))))))
 rw [setS_get]
 refine qb ?_
 rintro (_ | _) h3
 refine pq2 J (qg J (qp J (qg J (qp J (qg J (qp J (qg J (qp J (qb ?_)))))))))
 rintro (_ | _) h4
 refine pq2 J (qg J (qp J (qg J (qp J (qg J (qp J (qg J (qp J (qg J (qp J (qg J (qp J (qg J (qp J (qb ?_)))))))))))))))
 rintro (_ | _) h5
 refine qp J (qn (kq9 J) (kq2 J) (ecF J (eskip (sqn (er (pq3 J (hmu J J J J hM ?_)))))))
 rw [show (AV.lit (.bool true)).er=B true from rfl,setS_add]
 refine qn (kq8 J) (kq2 J) (er (qp J (qn (kq9 J) (kq2 J) (eseq (er (pq4 J (qn (kq12 J) (kq2 J) (eblock ?_))))))))
 refine cV_l2 c i a.params .full 0 (by omega) (by have:=hpar a (Lmg ha);omega) trivial ?_ ?_
 intro j2 n1 v1 o1 hj
 refine bqx (sqn (er (pq3 J (hcall J J J (binds_c _ a.vars (a.params.map fun (a:Arg)=>a.co) (hfv a (Lmg ha))) ?_))))
 rintro _ S1 ⟨rfl,hx1⟩
 refine qb ?_
 rintro (_ | _) h6
 refine qp J (qn (kq7 J) (kq1 J) (ecT J (er (qp J (qn (kq1 J) kn (eret (bqr (sqr ?_))))))))
 rotate_left
 refine qp J (qn (kq7 J) (kq1 J) (ecF J (eskip (bqn (sqn (ereg (hadd J J (i64w (by omega)) (qp J (qk (kq6 J) (kq1 J) ?_)))))))))
 have e:(l.take (i + 1)).map CFun.name=(l.take i).map CFun.name ++ [a.name]:=by simp [List.take_add_one,ha]
 have g1:(decide (a.vars.length=(a.params.map fun (a:Arg)=>a.co).length) && distinctOk [] (a.vars.zip (a.params.map fun (a:Arg)=>a.co)))=true:=by assumption
 have g2:nameOk a.name=true:=by assumption
 have g3:(((l.take i).map CFun.name).any fun y=>decide (y=a.name))=false:=by assumption
 have g4:a.params.all (parOk c.decls.length i)=true:=by simpa using hj
 have g5:a.params.length ≤ 6:=by simp at h4;omega
 simp only [Bae,Dte,List.length_map] at g1
 have e2:funOk c.decls.length i ((l.take i).map CFun.name) a=true:=by
  unfold funOk
  rw [any_comm,g2,g3,g4,decide_eq_true g5,decide_eq_true g1.1,g1.2]
  rfl
 have hy:funsOk c.decls.length i ((l.take i).map CFun.name) (l.drop i)=funsOk c.decls.length (i + 1) ((l.take (i + 1)).map CFun.name) (l.drop (i + 1)):=by
  rw [hd,e]
  simp only [funsOk,e2,Bta]
 have hcc:Chg (·=pm) S S1:=((Chg.refl (X:=(·=pm)) S).set (i:=pm) (o:=.map .str (setS ((l.take i).map CFun.name ++ [a.name]))) fun _=>rfl).trans hx1.chg
 exact cV_l1 c l hpar hfv k (i + 1) (by omega) hs (Nat.lt_of_lt_of_le hml hcc.nx) (by rw [e];exact (hx1.ob pm hml).trans set_ob) (by rw [QOK,hcc.Q];exact hQ) (fun n' v' j S' h c2=>hX n' v' j S' (hy.trans h) (hcc.trans c2)) (fun n' v' S' h c2=>hR n' v' S' (hy.trans h) (hcc.trans c2))
 intro n1 v1 hj
 refine bqr (sqr (bqr (sqr ?_)))
 rotate_left
 refine qp J (qn (kq9 J) (kq2 J) (ecT J (er (qp J (qn (kq1 J) kn (eret (sqr (bqr (sqr ?_)))))))))
 rotate_left
 refine pq2 J (zq7 J (qp J (qn (kq9 J) (kq2 J) (ecT J (er (qp J (qn (kq1 J) kn (eret (sqr (bqr (sqr ?_)))))))))))
 rotate_left
 refine pq2 J (zq4 J (pq2 J (zq7 J (qp J (qn (kq9 J) (kq2 J) (ecT J (er (qp J (qn (kq1 J) kn ?_)))))))))
 refine eret (sqr (bqr (sqr ?_)))
 rotate_left
 all_goals
  first
  | (have e2:funOk c.decls.length i ((l.take i).map CFun.name) a=false:=by
      rw [Bool.eq_false_iff]
      intro hf
      simp only [funOk,Bae,Bool.not_eq_true',Dte] at hf
      obtain ⟨⟨⟨⟨⟨f1,f2⟩,f3⟩,f4⟩,f5⟩,f6⟩:=hf
      rw [any_comm] at f5
      rw [f1] at h2;cases h2
     exact hR _ _ _ (by rw [hd];simp only [funsOk,e2,Bfa]) (Chg.refl _))
  | (have e2:funOk c.decls.length i ((l.take i).map CFun.name) a=false:=by
      rw [Bool.eq_false_iff]
      intro hf
      simp only [funOk,Bae,Bool.not_eq_true',Dte] at hf
      obtain ⟨⟨⟨⟨⟨f1,f2⟩,f3⟩,f4⟩,f5⟩,f6⟩:=hf
      rw [any_comm] at f5
      rw [f5] at h3;cases h3
     exact hR _ _ _ (by rw [hd];simp only [funsOk,e2,Bfa]) (Chg.refl _))
  | (have e2:funOk c.decls.length i ((l.take i).map CFun.name) a=false:=by
      rw [Bool.eq_false_iff]
      intro hf
      simp only [funOk,Bae,Bool.not_eq_true',Dte] at hf
      obtain ⟨⟨⟨⟨⟨f1,f2⟩,f3⟩,f4⟩,f5⟩,f6⟩:=hf
      rw [any_comm] at f5
      simp at h4;omega
     exact hR _ _ _ (by rw [hd];simp only [funsOk,e2,Bfa]) (Chg.refl _))
  | (have e2:funOk c.decls.length i ((l.take i).map CFun.name) a=false:=by
      rw [Bool.eq_false_iff]
      intro hf
      simp only [funOk,Bae,Bool.not_eq_true',Dte] at hf
      obtain ⟨⟨⟨⟨⟨f1,f2⟩,f3⟩,f4⟩,f5⟩,f6⟩:=hf
      rw [any_comm] at f5
      simp at h5;omega
     exact hR _ _ _ (by rw [hd];simp only [funsOk,e2,Bfa]) (Chg.refl _))
  | (have e2:funOk c.decls.length i ((l.take i).map CFun.name) a=false:=by
      rw [Bool.eq_false_iff]
      intro hf
      simp only [funOk,Bae,Bool.not_eq_true',Dte] at hf
      obtain ⟨⟨⟨⟨⟨f1,f2⟩,f3⟩,f4⟩,f5⟩,f6⟩:=hf
      rw [any_comm] at f5
      rw [show a.params.all (parOk c.decls.length i)=false from hj] at f6;cases f6
     exact hR _ _ _ (by rw [hd];simp only [funsOk,e2,Bfa]) ((Chg.refl S).set fun _=>rfl))
  | (have e2:funOk c.decls.length i ((l.take i).map CFun.name) a=false:=by
      rw [Bool.eq_false_iff]
      intro hf
      simp only [funOk,Bae,Bool.not_eq_true',Dte] at hf
      obtain ⟨⟨⟨⟨⟨f1,f2⟩,f3⟩,f4⟩,f5⟩,f6⟩:=hf
      rw [any_comm] at f5
      have g1:(decide (a.vars.length=(a.params.map fun (a:Arg)=>a.co).length) && distinctOk [] (a.vars.zip (a.params.map fun (a:Arg)=>a.co)))=false:=by assumption
      rw [f4,List.length_map,decide_eq_true f3] at g1;cases g1
     exact hR _ _ _ (by rw [hd];simp only [funsOk,e2,Bfa]) (((Chg.refl (X:=(·=pm)) S).set (i:=pm) (o:=.map .str (setS ((l.take i).map CFun.name ++ [a.name]))) fun _=>rfl).trans hx1.chg))
termination_by l.length - i
decreasing_by all_goals omega
theorem cV_l3 (c:Core) (hc:CoreSz c) (l:List CFun) (hpar:∀ g ∈ l,g.params.length ≤ 6 ∧ g.vars.length=g.params.length) (hbz:∀ g ∈ l,g.body.sz ≤ 2 ^ 40) (k:Nat) (i:Nat) (hi:i ≤ l.length) (hs:l.length ≤ 2 ^ 40) {n:Nat} {v:Nat → Bool} {D:List (Nat × List AV)} {S:Sg} {Q:Ex → Fr → Prop}
 (left:Int) (h0:0 ≤ left ∧ left ≤ 2 ^ 40) (hkl:k < S.nx) (hk:S.ob k=some (.row [SL 3 (c.decls.map Decl.enc),SL 8 (c.funs.map CFun.enc),I left])) (hX:∀ j S',BodP c (l.drop i) left → Chg (·=k) S S' → Q (.exit 4) ⟨uv (uv (uv (uv (uv e0 119 (B false)) 118 (I j)) 117 (I (l.map CFun.enc).length)) 116 (.slice .none 8 (l.map CFun.enc))) 4 (.ptr k 0),(fun _=>none),n,v,D,S'⟩)
 (hR:∀ S',¬ BodP c (l.drop i) left → Chg (·=k) S S' → Q .ret ⟨uv e0 2 (B false),(fun _=>none),n,v,D,S'⟩):EX (callL p) (.loop F19_l3) ⟨uv (uv (uv (uv e0 118 (I i)) 117 (I (l.map CFun.enc).length)) 116 (.slice .none 8 (l.map CFun.enc))) 4 (.ptr k 0),(fun _=>none),n,v,D,S⟩ Q:=by
 refine eloop (er (qp J (qb ?_)))
 rintro (_ | _) h1
 refine qn (kq5 J) kn (eseq (ecF J (eexit (sqx ?_))))
 exact hX _ _ (by rw [List.drop_eq_nil_of_le (by simp at h1 ⊢;omega)];exact ⟨by simp,by simp [szL];omega⟩) (Chg.refl _)
 refine qn (kq5 J) kn (eseq (ecT J (eskip (sqn (eseq (eblock (er ?_)))))))
 have hlt:i < l.length:=by simpa using h1
 obtain ⟨a,ha⟩:=get_of_lt hlt
 have hd:=drop_cons ha
 refine hia (y:=.agg (Str a.name :: encArgs a.params :: ints a.vars :: a.body.cs)) rfl rfl (by omega) (by simp [ha,Node.enc_eq,Br.enc_eq,CFun.enc_eq]) rfl (hlda rfl rfl (lc rfl (lc rfl (lc rfl (lc rfl (lc rfl (lc rfl (lc rfl (lc rfl (ln rfl))))))))) (hal (dc (dc (dc (dc (dc (dc (dc dn rfl) rfl) rfl) rfl) rfl) rfl) rfl) (hstl rfl rfl rfl rfl (Nlb rfl) (lc rfl (lc rfl (lc rfl (lc rfl (lc rfl (lc rfl (lc rfl (lc rfl (ln rfl))))))))) (qk (kc rfl (kc rfl (kc rfl (kc rfl (kc rfl kn))))) (kc rfl kn) (sqn (eseq (ereg (hcall rfl rfl rfl (cNewScope_c _ [] [] (by simp) (by simp)) ?_))))))))
 rintro _ S1 ⟨i0,i1,rfl,hS1,hx1,hi0,hi1⟩
 have hp:=hpar a (Lmg ha)
 have hK1:KV c k i0 i1 (fun _=>false) (fun _=>false) left S1:=⟨(hx1.ob k hkl).trans hk,hS1,Nat.lt_of_lt_of_le hkl hx1.nx,by omega,by omega⟩
 refine hal (dq6 J) (hstl J J J J (Nlb J) (lq2 J) (qn (kq6 J) (kq2 J) (er (hlda J J (lq2 J) (pq4 J (hcall J J J (sides_c _ a.params (by omega)) ?_))))))
 rintro _ _ ⟨rfl,hq⟩
 obtain rfl:=hq.symm
 rw [show a.params.map (fun a=>B a.co)=(a.params.map fun (q:Arg)=>q.co).map B from by simp]
 refine hcall rfl rfl rfl (enter_c _ i0 i1 _ _ a.vars (a.params.map fun (q:Arg)=>q.co) (by simp;omega) (by omega) hS1) ?_
 rintro _ S2 ⟨bs,ba,rfl,hE,hc2,hbs,hba⟩
 have hK2:=en_kv hK1 hE hc2
 refine qn (kq6 J) (kq2 J) (er (pq3 J (hcall J J J (Sort_c _ _) ?_)))
 rintro _ _ ⟨rfl,hq⟩
 obtain rfl:=hq.symm
 refine qp J (qb ?_)
 rintro (_ | _) h2
 refine qp J (qg J (qp J (qg J (hlda J J (lq2 J) (qg J (qp J (qg J (hlda J J (lq5 J) (qg J (hcall J J J (valid_c c hc a.body (hbz a (Lmg ha)) _ k i0 i1 _ _ left 1 hK2 h0.1 h0.2 (by omega) (by omega)) ?_))))))))))
 rintro _ S3 ⟨b,left',rfl,hK3,hc3,q3,q4,q5,q6⟩
 refine qb ?_
 rintro (_ | _) h3
 refine qg J (pq2 J (qn (kq5 J) kn (ecT J (er (qp J (qn (kq1 J) kn (eret (bqr (sqr ?_)))))))))
 rotate_left
 refine qg J (pq2 J (qn (kq5 J) kn (ecF J (eskip (bqn (sqn (ereg (hadd J J (i64w (by omega)) (qp J (qk (kq4 J) kn ?_))))))))))
 have g1:(!decide (sortOf a.body.op=2))=false:=by assumption
 have g2:b=true:=by assumption
 subst g2
 have hv:=q5.1 rfl
 have hl':=q6 rfl
 have hz1:0 ≤ left':=by have:=hv.2.1;omega
 have hall:=And.intro (show sortOf a.body.op=2 by simpa using g1) hv
 have hcc:Chg (·=k) S S3:=(((hx1.chg (X:=K3 k i0 i1)).trans (hc2.mono fun i _ h=>.inr h)).trans hc3).mono fun i hi h=>by rcases h with h | h | h;exact h;omega;omega
 exact cV_l3 c hc l hpar hbz k (i + 1) (by omega) hs left' ⟨hz1,by omega⟩ hK3.kl hK3.hk (fun j S' h c2=>hX j S' (by rw [hd];exact (bod_cons hall).2 (hl' ▸ h)) (hcc.trans c2)) (fun S' h c2=>hR S' (by rw [hd];exact fun q=>h (hl' ▸ (bod_cons hall).1 q)) (hcc.trans c2))
 refine qp J (zq6 J (qp J (qn (kq5 J) kn (ecT J (er (qp J (qn (kq1 J) kn (eret (bqr (sqr ?_))))))))))
 rotate_left
 all_goals
  first
  | (have g1:(!decide (sortOf a.body.op=2))=true:=by assumption
     refine hR _ (fun h=>?_) (((hx1.chg (X:=K3 k i0 i1)).trans (hc2.mono fun i _ h=>.inr h)).mono fun i hi h=>by rcases h with h | h | h;exact h;omega;omega)
     rw [hd] at h
     have:=(bod_no h).1
     simp [this] at g1)
  | (refine hR _ (fun h=>?_) ((((hx1.chg (X:=K3 k i0 i1)).trans (hc2.mono fun i _ h=>.inr h)).trans hc3).mono fun i hi h=>by rcases h with h | h | h;exact h;omega;omega)
     rw [hd] at h
     have:=q5.2 (bod_no h).2
     simp_all)
termination_by l.length - i
decreasing_by all_goals omega
theorem cValid_c (s:Sg) (hQ:QOK s) (c:Core) (hc:CoreSz c) (hfv:∀ g ∈ c.funs,g.vars.length ≤ 2 ^ 40) (hbz:∀ g ∈ c.funs,g.body.sz ≤ 2 ^ 40):HC p N19_ [.agg (Core.cs c)] s (fun r s'=>r=[B (coreOk c)] ∧ Ext s s'):=by
 refine hcf J f19_ J ?_
 simp only [chainOf]
 refine er (hbox (dc dn J) J (lq2 J) (qp J (qn (kq1 J) (kq1 J) (eseq (er (pq2 J (hcall J J J (dValid_c _ hQ c.decls hc.dl) ?_)))))))
 rintro _ S1 ⟨rfl,hx1⟩
 refine qb ?_
 rintro (_ | _) h1
 refine pq2 J (zq4 J (pq2 J (zq4 J (qp J (qn (kq2 J) (kq1 J) (ecT J (er (qp J (qn (kq1 J) kn (eret (sqr (fqr J ?_))))))))))))
 rotate_left
 refine pq2 J (qg J (qp J (qg J (qp J (qg J (qp J (qg J (qp J (qb ?_)))))))))
 rintro (_ | _) h2
 refine pq2 J (qg J (qp J (qg J (qp J (qg J (qp J (qg J (qp J (qb ?_)))))))))
 rintro (_ | _) h3
 refine qp J (qn (kq2 J) (kq1 J) (ecF J (eskip (sqn (er (hmkm (qp J (qn (kq2 J) (kq1 J) (er (pq4 J (hbuild J J (lq3 J) (hboxo J (lq3 J) (qp J (qn (kq3 J) (kq1 J) (eseq ?_)))))))))))))))
 refine er (pq4 J (qn (kq6 J) (kq1 J) (eblock ?_)))
 have e1:(S1.new (.map .str fun _=>none)).nx=S1.nx + 1:=rfl
 refine cV_l1 (pm:=S1.nx) c c.funs hc.ga hfv (S1.new (.map .str fun _=>none)).nx 0 (by omega) (by simp at h3;omega) (Nat.lt_of_lt_of_le (Nat.lt_succ_self _) (Nat.le_succ _)) (by rw [new_lt (by omega),List.take_zero,List.map_nil,setS_nil];exact new_ob) (by rw [QOK];show hasInt (S1.Q _ 0)=true;rw [hx1.Q];exact hQ) ?_ ?_
 intro n2 v2 j S2 hj hc2
 refine bqx (sqn (eseq (er (pq4 J (qn (kq4 J) kn (eblock ?_))))))
 have hH:headsOk c=true:=by
  unfold headsOk
  rw [show funsOk c.decls.length 0 [] c.funs=true from by simpa using hj]
  simp at h2 h3 ⊢
  omega
 have hk2:=hc2.ob (S1.nx + 1) (by simp only [Sg.new];omega) (by omega)
 refine cV_l3 c hc c.funs (headsOk_mem hH) hbz (S1.nx + 1) 0 (by omega) (by simp at h3;omega) 30000 (by omega) (Nat.lt_of_lt_of_le (by simp only [Sg.new];omega) hc2.nx) (hk2.trans (by rw [show S1.nx + 1=(S1.new (.map .str fun _=>none)).nx from rfl,new_ob];rfl)) ?_ ?_
 intro j3 S3 hb hc3
 refine bqx (sqn (er (qp J (qn (kq1 J) kn (eret (fqr J ?_))))))
 rotate_left
 intro S3 hb hc3
 refine bqr (sqr (fqr J ?_))
 rotate_left
 intro n2 v2 S2 hj hc2
 refine bqr (sqr (fqr J ?_))
 rotate_left
 refine qp J (qn (kq2 J) (kq1 J) (ecT J (er (qp J (qn (kq1 J) kn (eret (sqr (fqr J ?_))))))))
 rotate_left
 refine pq2 J (zq4 J (qp J (qn (kq2 J) (kq1 J) (ecT J (er (qp J (qn (kq1 J) kn (eret (sqr (fqr J ?_))))))))))
 rotate_left
 all_goals
  first
  | (have e:coreOk c=false:=by
      rw [Bool.eq_false_iff]
      intro h
      have q:=(coreOk_iff c).1 h
      rw [q.1] at h1
      cases h1
     exact ⟨by rw [e];rfl,hx1⟩)
  | (have e:coreOk c=false:=by
      rw [Bool.eq_false_iff]
      intro h
      have q:=((coreOk_iff c).1 h).2.1
      simp only [headsOk,Bae,Dte] at q
      simp at h2
      omega
     exact ⟨by rw [e];rfl,hx1⟩)
  | (have e:coreOk c=false:=by
      rw [Bool.eq_false_iff]
      intro h
      have q:=((coreOk_iff c).1 h).2.1
      simp only [headsOk,Bae,Dte] at q
      simp at h3
      omega
     exact ⟨by rw [e];rfl,hx1⟩)
  | (have e:coreOk c=false:=by
      rw [Bool.eq_false_iff]
      intro h
      have q:=((coreOk_iff c).1 h).2.1
      simp only [headsOk,Bae] at q
      have g:funsOk c.decls.length 0 [] c.funs=false:=by simpa using hj
      rw [g] at q
      cases q.2
     exact ⟨by rw [e];rfl,hx1.trans (((Chg.new (Chg.new (Chg.refl S1))).trans hc2).ext fun i h=>by omega)⟩)
  | (have e:coreOk c=true:=(coreOk_iff c).2 ⟨by assumption,hH,by simpa using hb⟩
     exact ⟨by rw [e];rfl,hx1.trans (((Chg.new (Chg.new (Chg.refl S1))).trans ((hc2.mono (fun i _ h=>.inl h)).trans (hc3.mono fun i _ h=>.inr h))).ext (X:=fun i=>i=S1.nx ∨ i=S1.nx + 1) fun i h=>by omega)⟩)
  | (have e:coreOk c=false:=by
      rw [Bool.eq_false_iff]
      intro h
      exact hb (by simpa using ((coreOk_iff c).1 h).2.2)
     exact ⟨by rw [e];rfl,hx1.trans (((Chg.new (Chg.new (Chg.refl S1))).trans ((hc2.mono (fun i _ h=>.inl h)).trans (hc3.mono fun i _ h=>.inr h))).ext (X:=fun i=>i=S1.nx ∨ i=S1.nx + 1) fun i h=>by omega)⟩)
end Go.Sim.Kd
namespace Go.Sim.Kd
open Go Go.Sim
def setT (X:Int → Option Int) (v:Int) (o:Option Int):Int → Option Int:=fun n=>if n=v then o else X n
abbrev bindT (X:Int → Option Int) (v t:Int):Int → Option Int:=setT X v (some t)
def bindsT (w:Bool) (X:Int → Option Int):List Int → List Arg → (Int → Option Int)
 | v :: vs,a :: as=>bindsT w (if a.co=w then bindT X v a.ty else X) vs as
 | _,_=>X
abbrev Old:=Bool × Int × Option Int
def olds (X A:Int → Option Int):List Int → List Arg → List Old
 | v :: vs,a :: as=>(a.co,v,(if a.co=true then A else X) v) :: olds (if a.co=false then bindT X v a.ty else X) (if a.co=true then bindT A v a.ty else A) vs as
 | _,_=>[]
def dom (X:Int → Option Int):Int → Bool:=fun n=>(X n).isSome
theorem dom_bind (X:Int → Option Int) (v t:Int):dom (bindT X v t)=addV (dom X) v:=by
 funext n
 simp only [dom,bindT,setT,addV]
 by_cases h:n=v <;> simp [h]
theorem dom_binds (w:Bool):∀ (vs:List Int) (as:List Arg) (X:Int → Option Int),vs.length=as.length → dom (bindsT w X vs as)=addsV w (dom X) vs (as.map fun a=>a.co)
 | [],_,X,_=>by simp [bindsT,addsV]
 | _ :: _,[],X,h=>by simp at h
 | v :: vs,a :: as,X,h=>by
   rw [bindsT,dom_binds w vs as _ (by simpa using h),List.map_cons,addsV,List.headD_cons,List.tail_cons]
   split
   ·rw [dom_bind]
   rfl
def tyM (X:Int → Option Int):Value → Option AV
 | .int .i64 n=>(X n).map I
 | _=>none
abbrev encO (q:Old):AV:=.agg [I (sideOf q.1),I q.2.1,I (q.2.2.getD 0),B q.2.2.isSome]
def kRules (k:Nat):List AV:=[.fn N127_ [.ptr k 0] [],.fn N128_ [.ptr k 0] [],.fn N129_ [.ptr k 0] [],.fn N130_ [.ptr k 0] [],.fn N131_ [.ptr k 0] [],
 .fn N127_ [.ptr k 0] [],.fn N129_ [.ptr k 0] [],.fn N130_ [.ptr k 0] [],.fn N131_ [.ptr k 0] [],.fn N132_ [.ptr k 0] [],.fn N133_ [.ptr k 0] [],
 .fn N134_ [.ptr k 0] [],.fn N134_ [.ptr k 0] [],.fn N135_ [.ptr k 0] [],.fn N134_ [.ptr k 0] []]
def kCells (c:Core) (k i0 i1:Nat):List AV:=SL 3 (c.decls.map Decl.enc) :: SL 8 (c.funs.map CFun.enc) :: .map i0 :: .map i1 :: kRules k
structure KT (c:Core) (k i0 i1:Nat) (X A:Int → Option Int) (S:Sg):Prop where
 hk:S.ob k=some (.row (kCells c k i0 i1))
 h0:S.ob i0=some (.map (.int .i64) (tyM X))
 h1:S.ob i1=some (.map (.int .i64) (tyM A))
 kl:k < S.nx
 l0:i0 < S.nx
 l1:i1 < S.nx
 ne:i0 ≠ i1
 k0:k ≠ i0
 k1:k ≠ i1
theorem KT.at {c:Core} {k i0 i1:Nat} {X A:Int → Option Int} {S:Sg} (h:KT c k i0 i1 X A S) (w:Bool):S.ob (if w then i1 else i0)=some (.map (.int .i64) (tyM (if w then A else X))):=by
 cases w
 ·exact h.h0
 exact h.h1
theorem KT.put {c:Core} {k i0 i1:Nat} {X A X' A':Int → Option Int} {S S':Sg} {w:Bool} {Y:Int → Option Int} (h:KT c k i0 i1 X A S) (hx:X'=if w=false then Y else X) (ha:A'=if w=true then Y else A)
 (e1:S'.ob (if w then i1 else i0)=some (.map (.int .i64) (tyM Y))) (e2:∀ j,j < S.nx → j=k ∨ j=(if w then i0 else i1) → S'.ob j=S.ob j) (e3:S.nx ≤ S'.nx):KT c k i0 i1 X' A' S':=by
 subst hx ha
 have hk:=(e2 k h.kl (.inl rfl)).trans h.hk
 have:=h.kl
 have:=h.l0
 have:=h.l1
 cases w with
 | true=>exact ⟨hk,(e2 i0 h.l0 (.inr rfl)).trans h.h0,e1,by omega,by omega,by omega,h.ne,h.k0,h.k1⟩
 | false=>exact ⟨hk,e1,(e2 i1 h.l1 (.inr rfl)).trans h.h1,by omega,by omega,by omega,h.ne,h.k0,h.k1⟩
theorem KT.set {c:Core} {k i0 i1:Nat} {X A:Int → Option Int} {S:Sg} (h:KT c k i0 i1 X A S) (w:Bool) (Y:Int → Option Int):KT c k i0 i1 (if w=false then Y else X) (if w=true then Y else A) (S.set (if w then i1 else i0) (.map (.int .i64) (tyM Y))):=by
 refine h.put (w:=w) (Y:=Y) rfl rfl set_ob (fun j _ hj=>set_ne ?_) (Nat.le_refl _)
 cases w
 ·rcases hj with hj | hj <;> subst hj <;> simp only [Bool.false_eq_true,if_false]
  exact h.k0
  exact Ne.symm h.ne
 rcases hj with hj | hj <;> subst hj <;> simp only [if_true]
 exact h.k1
 exact h.ne
theorem KT.keep {c:Core} {k i0 i1:Nat} {X A:Int → Option Int} {S S':Sg} {Z:Nat → Prop} (h:KT c k i0 i1 X A S) (q:Chg Z S S') (hk:¬ Z k) (h0:¬ Z i0) (h1:¬ Z i1):KT c k i0 i1 X A S' :=
 ⟨(q.ob k h.kl hk).trans h.hk,(q.ob i0 h.l0 h0).trans h.h0,(q.ob i1 h.l1 h1).trans h.h1,Nat.lt_of_lt_of_le h.kl q.nx,Nat.lt_of_lt_of_le h.l0 q.nx,Nat.lt_of_lt_of_le h.l1 q.nx,h.ne,h.k0,h.k1⟩
structure EB (g0:Nat) (c:Core) (k bk ba i0 i1:Nat) (X A:Int → Option Int) (ad:List Old) (S:Sg):Prop where
 hB:S.ob bk=some (.row [.ptr k 0])
 hA:∃ o,S.ob ba=some (.row [.slice o 4 (ad.map encO)]) ∧ CanG g0 o S
 hK:KT c k i0 i1 X A S
 bl:bk < S.nx
 al:ba < S.nx
 ba':bk ≠ ba
 bkk:bk ≠ k
 b0:bk ≠ i0
 b1:bk ≠ i1
 ak:ba ≠ k
 a0:ba ≠ i0
 a1:ba ≠ i1
theorem EB.more {g0:Nat} {c:Core} {k bk ba i0 i1:Nat} {X A:Int → Option Int} {ad:List Old} {S S3:Sg} {w:Bool} {a t:Int} {g:Nat} (h:EB g0 c k bk ba i0 i1 X A ad S)
 (f1:S3.ob=upd S.ob ba (some (.row [.slice (.gt g) 4 (ad.map encO ++ [encO (w,a,(if w then A else X) a)])]))) (f2:S3.nx=S.nx) (f3:g < S3.gn) (f4:S3.gl g=true) (f5:g0 ≤ g) :
 EB g0 c k bk ba i0 i1 (if w=false then bindT X a t else X) (if w=true then bindT A a t else A) (ad ++ [(w,a,(if w then A else X) a)]) (S3.set (if w then i1 else i0) (.map (.int .i64) (tyM (bindT (if w then A else X) a t)))):=by
 have ho:∀ j,j ≠ ba → S3.ob j=S.ob j:=fun j hj=>by rw [f1,upd_ne _ _ hj]
 have hw:∀ j,j ≠ i0 → j ≠ i1 → (S3.set (if w then i1 else i0) (.map (.int .i64) (tyM (bindT (if w then A else X) a t)))).ob j=S3.ob j:=fun j h0 h1=>set_ne (by cases w;exact h0;exact h1)
 have hK3:KT c k i0 i1 X A S3:=⟨(ho k (Ne.symm h.ak)).trans h.hK.hk,(ho i0 (Ne.symm h.a0)).trans h.hK.h0,(ho i1 (Ne.symm h.a1)).trans h.hK.h1,by rw [f2];exact h.hK.kl,by rw [f2];exact h.hK.l0,by rw [f2];exact h.hK.l1,h.hK.ne,h.hK.k0,h.hK.k1⟩
 refine ⟨?_,⟨.gt g,?_,.inr ⟨g,rfl,f4,f3,f5⟩⟩,?_,by show bk < S3.nx;rw [f2];exact h.bl,by show ba < S3.nx;rw [f2];exact h.al,h.ba',h.bkk,h.b0,h.b1,h.ak,h.a0,h.a1⟩
 ·rw [hw bk h.b0 h.b1,ho bk h.ba'];exact h.hB
 ·rw [hw ba h.a0 h.a1,f1,upd_same,List.map_append];rfl
 have q:=hK3.set w (bindT (if w then A else X) a t)
 cases w
 ·exact q
 exact q
theorem EB.chg {c:Core} {k bk ba i0 i1:Nat} {X A:Int → Option Int} {ad:List Old} {S0 S S3:Sg} {w:Bool} {o y:AObj} (h:EB S0.gn c k bk ba i0 i1 X A ad S) (h0:Chg (fun j=>j=ba ∨ j=i0 ∨ j=i1) S0 S)
 (f1:S3.ob=upd S.ob ba (some y)) (f2:S3.nx=S.nx) (f3:S.gn ≤ S3.gn) (f4:∀ g,g < S0.gn → S3.gl g=S.gl g) (f5:S3.Q=S.Q):Chg (fun j=>j=ba ∨ j=i0 ∨ j=i1) S0 (S3.set (if w then i1 else i0) o):=by
 refine ⟨by have:=h0.nx;show S0.nx ≤ S3.nx;omega,fun j hj hx=>?_,by have:=h0.gn;show S0.gn ≤ S3.gn;omega,fun g hg=>(f4 g hg).trans (h0.gl g hg),f5.trans h0.Q⟩
 rw [set_ne,f1,upd_ne _ _ (fun e=>hx (.inl e))]
 ·exact h0.ob j hj hx
 intro e
 cases w
 ·exact hx (.inr (.inl e))
 exact hx (.inr (.inr e))
theorem EB.fin {g0:Nat} {c:Core} {k bk ba i0 i1:Nat} {X A:Int → Option Int} {ad:List Old} {S:Sg} {vars:List Int} {as:List Arg} {i:Nat} {a:Int} {x:Arg} (hd:vars.drop i=a :: vars.drop (i + 1)) (hx:as.drop i=x :: as.drop (i + 1))
 (h:EB g0 c k bk ba i0 i1 (bindsT false (if x.co=false then bindT X a x.ty else X) (vars.drop (i + 1)) (as.drop (i + 1))) (bindsT true (if x.co=true then bindT A a x.ty else A) (vars.drop (i + 1)) (as.drop (i + 1)))
   (ad ++ [(x.co,a,(if x.co=true then A else X) a)] ++ olds (if x.co=false then bindT X a x.ty else X) (if x.co=true then bindT A a x.ty else A) (vars.drop (i + 1)) (as.drop (i + 1))) S) :
 EB g0 c k bk ba i0 i1 (bindsT false X (vars.drop i) (as.drop i)) (bindsT true A (vars.drop i) (as.drop i)) (ad ++ olds X A (vars.drop i) (as.drop i)) S:=by
 rw [hd,hx]
 simp only [bindsT,olds]
 rw [List.append_assoc] at h
 exact h
end Go.Sim.Kd
namespace Go.Sim.Kd
open Go Go.Sim
def xtorTys (ds:List Decl) (ty n:Int):List Int:=match declAt ds ty with
 | some d=>(match d.xtors[n.toNat]? with
   | some x=>x.args.map Arg.ty
   | none=>[])
 | none=>[]
def xtorsOf (ds:List Decl) (ty:Int):List Xtor:=match declAt ds ty with
 | some d=>d.xtors
 | none=>[]
def parTys (fs:List CFun) (n:Int):List Int:=match fs[n.toNat]? with
 | some g=>g.params.map Arg.ty
 | none=>[]
mutual
def tN (ds:List Decl) (fs:List CFun):Node → (Int → Option Int) → (Int → Option Int) → Option Int
 | .mk op n ty args brs,X,A=>if op=0 then X n else if op=5 then A n else if op=1 then some 0
   else if op=2 ∨ op=6 then (if tNs ds fs args (xtorTys ds ty n) X A=true then some ty else none)
   else if op=3 ∨ op=7 then (if tNs ds fs args [0] (if op=7 then bindT X n ty else X) (if op=3 then bindT A n ty else A)=true then some ty else none)
   else if op=4 ∨ op=8 then (if tBs ds fs brs (xtorsOf ds ty) X A=true then some ty else none)
   else if op=9 then (if tNs ds fs args [ty,ty] X A=true then some 0 else none)
   else if op=13 then (if tNs ds fs args (parTys fs n) X A=true then some 0 else none)
   else (if tNs ds fs args [0,0,0] X A=true then some 0 else none)
def tNs (ds:List Decl) (fs:List CFun):List Node → List Int → (Int → Option Int) → (Int → Option Int) → Bool
 | [],_,_,_=>true
 | a :: as,w :: ws,X,A=>decide (tN ds fs a X A=some w) && tNs ds fs as ws X A
 | _ :: _,[],_,_=>false
def tB (ds:List Decl) (fs:List CFun):Br → Xtor → (Int → Option Int) → (Int → Option Int) → Bool
 | .mk vars _ body,x,X,A=>decide (tN ds fs body (bindsT false X vars x.args) (bindsT true A vars x.args)=some 0)
def tBs (ds:List Decl) (fs:List CFun):List Br → List Xtor → (Int → Option Int) → (Int → Option Int) → Bool
 | b :: bs,x :: xs,X,A=>tB ds fs b x X A && tBs ds fs bs xs X A
 | _,_,_,_=>true
end
theorem tB_eq (ds:List Decl) (fs:List CFun) (b:Br) (x:Xtor) (X A:Int → Option Int):tB ds fs b x X A=decide (tN ds fs b.body (bindsT false X b.vars x.args) (bindsT true A b.vars x.args)=some 0):=by
 cases b
 rw [tB]
 rfl
theorem vNs_mem {ds:List Decl} {fs:List CFun}:∀ {l:List Node} {ws:List Int} {X A:Int → Bool},vNs ds fs l ws X A=true → ∀ b ∈ l,vN ds fs b X A=true
 | [],_,_,_,_,b,hb=>by cases hb
 | a :: l,[],_,_,h,_,_=>by simp [vNs] at h
 | a :: l,w :: ws,X,A,h,b,hb=>by
   simp only [vNs,Bae] at h
   cases hb with
   | head=>exact h.1.2
   | tail _ hb=>exact vNs_mem h.2 b hb
end Go.Sim.Kd
namespace Go.Sim.Kd
open Go Go.Sim
theorem fun_dom {g:CFun} (w:Bool) (h:g.vars.length=g.params.length):dom (bindsT w (fun _=>none) g.vars g.params)=pScope w g:=by
 rw [dom_binds _ _ _ _ h]
 rfl
theorem core_body {c:Core} (h:coreOk c=true):∀ g ∈ c.funs,g.vars.length=g.params.length ∧ g.params.length ≤ 6 ∧ sortOf g.body.op=2 ∧ vN c.decls c.funs g.body (dom (bindsT false (fun _=>none) g.vars g.params)) (dom (bindsT true (fun _=>none) g.vars g.params))=true:=by
 intro g hg
 obtain ⟨_,h2,h3⟩:=(coreOk_iff c).1 h
 have hp:=headsOk_mem h2 g hg
 have hb:=h3.1 g hg
 rw [fun_dom _ hp.2,fun_dom _ hp.2]
 exact ⟨hp.2,hp.1,hb.1,hb.2.1⟩
end Go.Sim.Kd
namespace Go.Sim.Kd
open Go Go.Sim
theorem SArgs_l (l:List Arg) (i:Nat) (hi:i ≤ l.length) (hs:l.length ≤ 2 ^ 40) {n:Nat} {v:Nat → Bool} {D:List (Nat × List AV)} {S:Sg} {Q:Ex → Fr → Prop}
 (hX:∀ j,Q (.exit 0) ⟨uv (uv (uv (uv (uv e0 14 (B false)) 13 (I j)) 12 (I (l.map Arg.enc).length)) 1 (encArgs l)) 0 (.slice .none 2 (l.map Arg.enc)),(fun _=>none),n,v,D,S⟩):EX (callL p) (.loop F39_l1) ⟨uv (uv (uv (uv e0 13 (I i)) 12 (I (l.map Arg.enc).length)) 1 (encArgs l)) 0 (.slice .none 2 (l.map Arg.enc)),(fun _=>none),n,v,D,S⟩ Q:=by
 refine eloop (er (qp J (qb ?_)))
 rintro (_ | _) h1
 ·refine qn (kq5 J) kn (eseq (ecF J (eexit (sqx ?_))))
  exact hX _
 refine qn (kq5 J) kn (eseq (ecT J (eskip (sqn (eseq (eblock (er (pq2 J (qn (kq5 J) kn (er (pq2 J ?_)))))))))))
 have hlt:i < l.length:=by simpa using h1
 obtain ⟨a,ha⟩:=get_of_lt hlt
 have hd:=drop_cons ha
 refine hia (y:=Arg.enc a) rfl rfl (by omega) (by simp [ha]) rfl (hlda rfl rfl (lc rfl (lc rfl (ln rfl))) (qp rfl (qp rfl (hia (y:=Arg.enc a) rfl rfl (by omega) (by simp [ha]) rfl (hlda rfl rfl (lc rfl (lc rfl (ln rfl))) (qp rfl (qb ?_)))))))
 rintro (_ | _) h2
 ·refine qn (kq5 J) kn (ecF J (eskip (bqn (sqn (ereg (hadd J J (i64w (by omega)) (qp J (qk (kq4 J) kn ?_))))))))
  exact SArgs_l l (i + 1) (by omega) hs  hX
 refine qn (kq5 J) kn (ecT J (er (qp J (qn (kq1 J) kn (eret (bqr (sqr ?_)))))))
 exfalso
 simp_all
termination_by l.length - i
decreasing_by all_goals omega
theorem SArgs_c (s:Sg) (l:List Arg) (hz:l.length ≤ 2 ^ 40):HC p N39_ [encArgs l,encArgs l] s (fun r s'=>r=[B true] ∧ s'=s):=by
 refine hcf J f39_ J ?_
 simp only [chainOf]
 refine er (qp J (qn (kq2 J) kn (eseq (er (pq5 J (qb ?_))))))
 rintro (_ | _) h1
 ·refine qn (kq3 J) kn (ecF J (eskip (sqn (eseq (er (pq3 J (qn (kq4 J) kn (eblock (SArgs_l l 0 (by omega) hz ?_)))))))))
  intro j
  refine bqx (sqn (er (qp J (qn (kq1 J) kn (eret (fqr J ?_))))))
  first
  | exact ⟨rfl,rfl⟩
  | (exfalso;simp at h1)
 refine qn (kq3 J) kn (ecT J (er (qp J (qn (kq1 J) kn (eret (sqr (fqr J ?_)))))))
 first
 | exact ⟨rfl,rfl⟩
 | (exfalso;simp at h1)
def ExactC (b:Node):Prop:=∀ s:Sg,HC p N41_ [.agg b.cs,.agg b.cs] s (fun r s'=>r=[B true] ∧ s'=s)
theorem exact_l1 (a:Node) (H:∀ b ∈ a.args,ExactC b) (hs:a.args.length ≤ 2 ^ 40) (i:Nat) (hi:i ≤ a.args.length) {n:Nat} {v:Nat → Bool} {D:List (Nat × List AV)} {S:Sg} {Q:Ex → Fr → Prop}
 (hX:∀ j,Q (.exit 0) ⟨upd (upd (uv (uv (uv e0 50 (B false)) 49 (I j)) 48 (I (a.args.map Node.enc).length)) 3 (some (.loc 3 0))) 2 (some (.loc 2 0)),upd (upd ((fun _=>none)) 3 (some (a.cs))) 2 (some (a.cs)),n,v,D,S⟩):EX (callL p) (.loop F41_l1) ⟨upd (upd (uv (uv e0 49 (I i)) 48 (I (a.args.map Node.enc).length)) 3 (some (.loc 3 0))) 2 (some (.loc 2 0)),upd (upd ((fun _=>none)) 3 (some (a.cs))) 2 (some (a.cs)),n,v,D,S⟩ Q:=by
 refine eloop (er (qp J (qb ?_)))
 rintro (_ | _) h1
 ·refine qn (kq5 J) (kq2 J) (eseq (ecF J (eexit (sqx ?_))))
  exact hX _
 refine qn (kq5 J) (kq2 J) (eseq (ecT J (eskip (sqn (eseq (eblock (er (pq2 J (qn (kq5 J) (kq2 J) (er (pq3 J ?_)))))))))))
 have hlt:i < a.args.length:=by simpa using h1
 obtain ⟨b,hb⟩:=get_of_lt hlt
 refine hia (y:=.agg (b.cs)) rfl rfl (by omega) (by simp [hb,Node.enc_eq]) rfl (hlda rfl rfl (lc rfl (lc rfl (lc rfl (lc rfl (lc rfl (ln rfl)))))) (qp rfl (qp rfl (qp rfl (hia (y:=.agg (b.cs)) rfl rfl (by omega) (by simp [hb,Node.enc_eq]) rfl (hlda rfl rfl (lc rfl (lc rfl (lc rfl (lc rfl (lc rfl (ln rfl)))))) (hcall rfl rfl rfl (H b (Lmg hb) _) ?_)))))))
 rintro _ _ ⟨rfl,rfl⟩
 refine qb ?_
 rintro (_ | _) h2
 ·refine qp J (qn (kq5 J) (kq2 J) (ecT J (er (qp J (qn (kq1 J) kn (eret (bqr (sqr ?_))))))))
  exfalso
  simp_all
 refine qp J (qn (kq5 J) (kq2 J) (ecF J (eskip (bqn (sqn (ereg (hadd J J (i64w (by omega)) (qp J (qk (kq4 J) (kq2 J) ?_)))))))))
 exact exact_l1 a H hs (i + 1) (by omega) hX
termination_by a.args.length - i
decreasing_by all_goals omega
theorem exact_l2 (a:Node) (hz:a.sz ≤ 2 ^ 40) (H:∀ b ∈ a.brs,ExactC b.body) (i:Nat) (hi:i ≤ a.brs.length) {n:Nat} {v:Nat → Bool} {D:List (Nat × List AV)} {S:Sg} {Q:Ex → Fr → Prop}
 (hX:∀ j,Q (.exit 2) ⟨upd (uv (uv (uv (uv e0 69 (B false)) 68 (I j)) 67 (I (a.brs.map Br.enc).length)) 66 (SL 7 (a.brs.map Br.enc))) 3 (some (.loc 3 0)),upd ((fun _=>none)) 3 (some (a.cs)),n,v,D,S⟩):EX (callL p) (.loop F41_l2) ⟨upd (uv (uv (uv e0 68 (I i)) 67 (I (a.brs.map Br.enc).length)) 66 (SL 7 (a.brs.map Br.enc))) 3 (some (.loc 3 0)),upd ((fun _=>none)) 3 (some (a.cs)),n,v,D,S⟩ Q:=by
 refine eloop (er (qp J (qb ?_)))
 rintro (_ | _) h1
 ·refine qn (kq5 J) (kq1 J) (eseq (ecF J (eexit (sqx ?_))))
  exact hX _
 refine qn (kq5 J) (kq1 J) (eseq (ecT J (eskip (sqn (eseq (eblock (er (qp J ?_))))))))
 have hlt:i < a.brs.length:=by simpa using h1
 have hbs:=a.sz_brs
 obtain ⟨b,hb⟩:=get_of_lt hlt
 have hbz:=Node.sz_br (Lmg hb)
 have hv:=b.sz_vars
 have hv2:=b.sz_co
 refine hia (y:=.agg (ints b.vars :: bools b.co :: b.body.cs)) rfl rfl (by omega) (by simp [hb,Br.enc_eq]) rfl (hlda rfl rfl (lc rfl (lc rfl (lc rfl (lc rfl (lc rfl (lc rfl (lc rfl (ln rfl)))))))) (hal (dc (dc (dc (dc (dc (dc (dc (dc dn rfl) rfl) rfl) rfl) rfl) rfl) rfl) rfl) (qp rfl (hstl rfl rfl rfl rfl (Nlb rfl) (lc rfl (lc rfl (lc rfl (lc rfl (lc rfl (lc rfl (lc rfl (ln rfl)))))))) (qk (kc rfl (kc rfl (kc rfl (kc rfl (kc rfl (kc rfl kn)))))) (kc rfl (kc rfl kn)) (sqn (eseq (ereg (qp rfl (qp rfl (qp rfl (hia (y:=.agg (ints b.vars :: bools b.co :: b.body.cs)) rfl rfl (by omega) (by simp [hb,Br.enc_eq]) rfl (hlda rfl rfl (lc rfl (lc rfl (lc rfl (lc rfl (lc rfl (lc rfl (lc rfl (ln rfl)))))))) (hal (dc (dc (dc (dc (dc (dc (dc (dc (dc (dc (dc dn rfl) rfl) rfl) rfl) rfl) rfl) rfl) rfl) rfl) rfl) rfl) (hstl rfl rfl rfl rfl (Nlb rfl) (lc rfl (lc rfl (lc rfl (lc rfl (lc rfl (lc rfl (lc rfl (ln rfl)))))))) (qk (kc rfl (kc rfl (kc rfl (kc rfl (kc rfl (kc rfl kn)))))) (kc rfl (kc rfl (kc rfl kn))) (sqn (eseq (ereg (qp rfl (qp rfl (qp rfl (qp rfl ?_)))))))))))))))))))))))
 refine hcall J J J (SameInts_c _ _ _ (by omega)) ?_
 rintro _ _ ⟨rfl,rfl⟩
 refine qb ?_
 rintro (_ | _) h2
 ·refine pq2 J (zq6 J (pq2 J (zq6 J (qp J (qn (kq5 J) (kq1 J) (ecT J (er (qp J (qk (kq1 J) kn ?_)))))))))
  refine sqn (eret (bqr (sqr ?_)))
  exfalso
  simp_all
 refine pq2 J (qg J (qp J (qg J (qp J (qg J (qp J (qg J (qp J (qg J (hcall J J J (SameBools_c _ _ _ (by omega)) ?_))))))))))
 rintro _ _ ⟨rfl,rfl⟩
 refine qb ?_
 rintro (_ | _) h3
 ·refine qg J (pq3 J (zq6 J (qp J (qn (kq5 J) (kq1 J) (ecT J (er (qp J (qn (kq1 J) kn (eret (bqr (sqr ?_)))))))))))
  exfalso
  simp_all
 refine qg J (pq3 J (qg J (qp J (qg J (hlda J J (lq5 J) (qg J (qp J (qg J (hlda J J (lq5 J) (qg J (hcall J J J (H b (Lmg hb) _) ?_)))))))))))
 rintro _ _ ⟨rfl,rfl⟩
 refine qb ?_
 rintro (_ | _) h4
 ·refine qg J (pq2 J (qn (kq5 J) (kq1 J) (ecT J (er (qp J (qn (kq1 J) kn (eret (bqr (sqr ?_)))))))))
  exfalso
  simp_all
 refine qg J (pq2 J (qn (kq5 J) (kq1 J) (ecF J (eskip (bqn (sqn (ereg (hadd J J (i64w (by omega)) (qp J (qk (kq4 J) (kq1 J) ?_))))))))))
 exact exact_l2 a hz H (i + 1) (by omega) hX
termination_by a.brs.length - i
decreasing_by all_goals omega
theorem exact_c0 (a:Node) (hz:a.sz ≤ 2 ^ 40) (H1:∀ b ∈ a.args,ExactC b) (H2:∀ b ∈ a.brs,ExactC b.body) (s:Sg):HC p N41_ [.agg a.cs,.agg a.cs] s (fun r s'=>r=[B true] ∧ s'=s):=by
 refine hcf J f41_ J ?_
 simp only [chainOf]
 refine er (hbox (dq2 J) J (lq5 J) (hbox (dq3 J) J (lq5 J) (qp J (qn (kq2 J) (kq2 J) (eseq (er (pq5 J (qb ?_))))))))
 rintro (_ | _) h1
 refine qp J (qg J (qp J (qg J (qp J (qg J (qp J (qg J (qp J (qg J (qp J (qb ?_)))))))))))
 rintro (_ | _) h2
 refine pq2 J (qg J (qp J (qg J (qp J (qg J (qp J (qg J (qp J (qg J (qp J (qb ?_)))))))))))
 rintro (_ | _) h3
 refine pq2 J (qg J (qp J (qg J (qp J (qg J (qp J (qg J (qp J (qg J (qp J (qg J (qp J (qg J (qp J (qb ?_)))))))))))))))
 rintro (_ | _) h4
 refine pq2 J (qg J (qp J (qg J (qp J (qg J (qp J (qg J (qp J (qg J (qp J (qg J (qp J (qg J (qp J (qb ?_)))))))))))))))
 rintro (_ | _) h5
 refine qp rfl (qk (kc rfl (kc rfl (kc rfl kn))) (kc rfl (kc rfl kn)) (sqn (ecF rfl (eskip (sqn (eseq (eseq (ereg (qp rfl (qp rfl (qp rfl (qp rfl (qk (kc rfl (kc rfl (kc rfl (kc rfl kn)))) (kc rfl (kc rfl kn)) (sqn (eblock (exact_l1 a H1 (by have:=a.sz_args;omega) 0 (by omega) ?_))))))))))))))))
 intro j
 refine bqx (sqn (eseq (er (pq4 J (qn (kq4 J) (kq1 J) (eblock (exact_l2 a hz H2 0 (by omega) ?_)))))))
 intro j
 refine bqx (sqn (er (qp J (qn (kq1 J) kn (eret (fqr J ?_))))))
 rotate_left
 refine qp J (qn (kq3 J) (kq2 J) (ecT J (er (qp J (qn (kq1 J) kn (eret (sqr (fqr J ?_))))))))
 rotate_left
 refine pq2 J (zq7 J (qp J (qn (kq3 J) (kq2 J) (ecT J (er (qp J (qn (kq1 J) kn (eret (sqr (fqr J ?_))))))))))
 rotate_left
 refine pq2 J (zq7 J (pq2 J (zq7 J (qp J (qn (kq3 J) (kq2 J) (ecT J (er ?_)))))))
 refine qp J (qn (kq1 J) kn (eret (sqr (fqr J ?_))))
 rotate_left
 refine pq2 J (zq5 J (pq2 J (zq7 J (pq2 J (zq6 J ?_)))))
 refine zq1 J (qp J (qn (kq3 J) (kq2 J) (ecT J (er (qp J (qn (kq1 J) kn (eret (sqr (fqr J ?_)))))))))
 rotate_left
 refine qp J (zq5 J (pq2 J (zq5 J (pq2 J (zq7 J (pq2 J ?_))))))
 refine zq7 J (qp J (qn (kq3 J) (kq2 J) (ecT J (er (qp J (qn (kq1 J) kn (eret (sqr (fqr J ?_)))))))))
 rotate_left
 all_goals
  first
  | exact ⟨rfl,rfl⟩
  | (exfalso;simp_all)
theorem Exact_c (a:Node) (hz:a.sz ≤ 2 ^ 40):ExactC a:=by
 induction a using Node.ind with
 | h a ih1 ih2 =>
   exact exact_c0 a hz (fun b hb=>ih1 b hb (by have:=Node.sz_arg hb;omega)) (fun b hb=>ih2 b hb (by have:=Node.sz_br hb;have:=b.sz_body;omega))
theorem Xtor.sz_args (x:Xtor):x.args.length < x.sz:=by unfold Xtor.sz;omega
theorem Decl.sz_xtors (d:Decl):szL Xtor.sz d.xtors < d.sz:=by unfold Decl.sz;omega
theorem szL_len' {α:Type} {f:α → Nat} (l:List α) (h:∀ a,1 ≤ f a):l.length ≤ szL f l:=by induction l with
 | nil=>exact Nat.le_refl _
 | cons a l ih=>have:=h a;simp only [szL,List.length_cons];omega
theorem Xtor.one (x:Xtor):1 ≤ x.sz:=by unfold Xtor.sz;omega
theorem Decl.one (d:Decl):1 ≤ d.sz:=by unfold Decl.sz;omega
theorem CFun.one (d:CFun):1 ≤ d.sz:=by unfold CFun.sz;omega
theorem same_l2 (l:List Decl) (hz:szL Decl.sz l ≤ 2 ^ 40) (i:Nat) (hi:i < l.length) (d:Decl) (hd0:l[i]?=some d) (k:Nat) (hk:k ≤ d.xtors.length) {n:Nat} {v:Nat → Bool} {D:List (Nat × List AV)} {S:Sg} {Q:Ex → Fr → Prop}
 (hX:∀ j,Q (.exit 2) ⟨uv (uv (uv (uv (uv (uv (uv (uv (uv e0 64 (B false)) 63 (I j)) 62 (I (d.xtors.map Xtor.enc).length)) 61 (SL 2 (d.xtors.map Xtor.enc))) 15 (I i)) 14 (I (l.map Decl.enc).length)) 5 (I i)) 1 (SL 3 (l.map Decl.enc))) 0 (SL 3 (l.map Decl.enc)),(fun _=>none),n,v,D,S⟩):EX (callL p) (.loop F38_l2) ⟨uv (uv (uv (uv (uv (uv (uv (uv e0 63 (I k)) 62 (I (d.xtors.map Xtor.enc).length)) 61 (SL 2 (d.xtors.map Xtor.enc))) 15 (I i)) 14 (I (l.map Decl.enc).length)) 5 (I i)) 1 (SL 3 (l.map Decl.enc))) 0 (SL 3 (l.map Decl.enc)),(fun _=>none),n,v,D,S⟩ Q:=by
 refine eloop (er (qp J (qb ?_)))
 rintro (_ | _) h1
 ·refine qn (kq9 J) kn (eseq (ecF J (eexit (sqx ?_))))
  exact hX _
 refine qn (kq9 J) kn (eseq (ecT J (eskip (sqn (eseq (eblock (er (qp J ?_))))))))
 have hlt:k < d.xtors.length:=by simpa using h1
 have hdz:=szL_mem (f:=Decl.sz) (Lmg hd0)
 have hdx:=Decl.sz_xtors d
 have hll:=szL_len' (f:=Decl.sz) l Decl.one
 have hlx:=szL_len' (f:=Xtor.sz) d.xtors Xtor.one
 obtain ⟨x,hx0⟩:=get_of_lt hlt
 have hxz:=szL_mem (f:=Xtor.sz) (Lmg hx0)
 have hxa:=Xtor.sz_args x
 refine hia (y:=Xtor.enc x) rfl rfl (by omega) (by simp [hx0]) rfl (hlda rfl rfl (lc rfl (lc rfl (ln rfl))) (hal (dc (dc (dc (dc (dc (dc (dc (dc (dc (dc (dc (dc dn rfl) rfl) rfl) rfl) rfl) rfl) rfl) rfl) rfl) rfl) rfl) rfl) (qp rfl (hstl rfl rfl rfl rfl (Nlb rfl) (lc rfl (lc rfl (ln rfl))) (qk (kc rfl (kc rfl (kc rfl (kc rfl (kc rfl (kc rfl (kc rfl (kc rfl (kc rfl (kc rfl kn)))))))))) (kc rfl kn) (sqn (eseq (ereg (qp rfl (qp rfl (qp rfl (qp rfl (hia (y:=Decl.enc d) rfl rfl (by omega) (by simp [hd0]) rfl (qp rfl (qp rfl (qp rfl (hia (y:=Xtor.enc x) rfl rfl (by omega) (by simp [hx0]) rfl (qp rfl (qp rfl (qp rfl (qb ?_)))))))))))))))))))))
 rintro (_ | _) h2
 ·refine qp rfl (qg rfl (qp rfl (qg rfl (qp rfl (qg rfl (qp rfl (qg rfl (qp rfl (qg rfl (hia (y:=Decl.enc d) rfl rfl (by omega) (by simp [hd0]) rfl (qg rfl (qp rfl (qg rfl (qp rfl (qg rfl (qp rfl (qg rfl (hia (y:=Xtor.enc x) rfl rfl (by omega) (by simp [hx0]) rfl (qg rfl (qp rfl (qg rfl (qp rfl (qg rfl ?_)))))))))))))))))))))))
  refine hcall J J J (SArgs_c _ _ (by omega)) ?_
  rintro _ _ ⟨rfl,rfl⟩
  refine qb ?_
  rintro (_ | _) h3
  ·refine qg J (pq2 J (qn (kq9 J) kn (ecT J (er (qp J (qn (kq1 J) kn (eret (bqr (sqr ?_)))))))))
   exfalso
   simp_all
  refine qg J (pq2 J (qn (kq9 J) kn (ecF J (eskip (bqn (sqn (ereg (hadd J J (i64w (by omega)) (qp J (qk (kq8 J) kn ?_))))))))))
  exact same_l2 l hz i hi d hd0 (k + 1) (by omega) hX
 refine qp J (zq10 J (zq3 J (qp J (qn (kq9 J) kn (ecT J (er (qp J (qn (kq1 J) kn (eret ?_)))))))))
 refine bqr (sqr ?_)
 exfalso
 simp_all
termination_by d.xtors.length - k
decreasing_by all_goals omega
theorem same_l1 (l:List Decl) (hz:szL Decl.sz l ≤ 2 ^ 40) (i:Nat) (hi:i ≤ l.length) {n:Nat} {v:Nat → Bool} {D:List (Nat × List AV)} {S:Sg} {Q:Ex → Fr → Prop}
 (hX:∀ j,Q (.exit 0) ⟨uv (uv (uv (uv (uv e0 16 (B false)) 15 (I j)) 14 (I (l.map Decl.enc).length)) 1 (SL 3 (l.map Decl.enc))) 0 (SL 3 (l.map Decl.enc)),(fun _=>none),n,v,D,S⟩):EX (callL p) (.loop F38_l1) ⟨uv (uv (uv (uv e0 15 (I i)) 14 (I (l.map Decl.enc).length)) 1 (SL 3 (l.map Decl.enc))) 0 (SL 3 (l.map Decl.enc)),(fun _=>none),n,v,D,S⟩ Q:=by
 refine eloop (er (qp J (qb ?_)))
 rintro (_ | _) h1
 ·refine qn (kq5 J) kn (eseq (ecF J (eexit (sqx ?_))))
  exact hX _
 refine qn (kq5 J) kn (eseq (ecT J (eskip (sqn (eseq (eblock (er (pq2 J (qn (kq5 J) kn (eseq (er (pq2 J ?_))))))))))))
 have hlt:i < l.length:=by simpa using h1
 have hll:=szL_len' (f:=Decl.sz) l Decl.one
 obtain ⟨d,hd0⟩:=get_of_lt hlt
 refine hia (y:=Decl.enc d) rfl rfl (by omega) (by simp [hd0]) rfl (qp rfl (qp rfl (qp rfl (qp rfl (hia (y:=Decl.enc d) rfl rfl (by omega) (by simp [hd0]) rfl (qp rfl (qp rfl (qp rfl (qb ?_)))))))))
 rintro (_ | _) h2
 ·refine qp rfl (qg rfl (qp rfl (qg rfl (qp rfl (qg rfl (hia (y:=Decl.enc d) rfl rfl (by omega) (by simp [hd0]) rfl (qg rfl (qp rfl (qg rfl (qp rfl (qg rfl (qp rfl (qg rfl (qp rfl (qg rfl (hia (y:=Decl.enc d) rfl rfl (by omega) (by simp [hd0]) rfl (qg rfl (qp rfl (qg rfl (qp rfl (qg rfl (qp rfl (qb ?_)))))))))))))))))))))))
  rintro (_ | _) h3
  ·refine qp rfl (qp rfl (qg rfl (qp rfl (qg rfl (qp rfl (qg rfl (hia (y:=Decl.enc d) rfl rfl (by omega) (by simp [hd0]) rfl (qg rfl (qp rfl (qg rfl (qp rfl (qg rfl (qp rfl (qg rfl (qp rfl (qg rfl (qp rfl (qg rfl (hia (y:=Decl.enc d) rfl rfl (by omega) (by simp [hd0]) rfl (qg rfl (qp rfl (qg rfl (qp rfl ?_)))))))))))))))))))))))
   refine qg J (qp J (qg J (qp J (qb ?_))))
   rintro (_ | _) h4
   ·refine qp rfl (qk (kc rfl (kc rfl (kc rfl (kc rfl (kc rfl (kc rfl kn)))))) kn (sqn (ecF rfl (eskip (sqn (eseq (ereg (qp rfl (qp rfl (hia (y:=Decl.enc d) rfl rfl (by omega) (by simp [hd0]) rfl (qp rfl (qp rfl (qp rfl (qp rfl (qk (kc rfl (kc rfl (kc rfl (kc rfl (kc rfl (kc rfl (kc rfl (kc rfl kn)))))))) kn (sqn (eblock (same_l2 l hz i hlt d hd0 0 (by omega) ?_))))))))))))))))))
    intro j
    refine bqx (bqn (sqn (ereg (hadd J J (i64w (by omega)) (qp J (qk (kq4 J) kn ?_))))))
    exact same_l1 l hz (i + 1) (by omega) hX
   refine qp J (qn (kq6 J) kn (ecT J (er (qp J (qn (kq1 J) kn (eret (sqr (bqr (sqr ?_)))))))))
   exfalso
   simp_all
  refine pq2 J (zq10 J (zq3 J (qp J (qn (kq6 J) kn (ecT J (er (qp J (qn (kq1 J) kn ?_))))))))
  refine eret (sqr (bqr (sqr ?_)))
  exfalso
  simp_all
 refine qp J (zq10 J (zq1 J (pq2 J (zq10 J ?_))))
 refine zq3 J (qp J (qn (kq6 J) kn (ecT J (er (qp J (qn (kq1 J) kn (eret (sqr (bqr (sqr ?_))))))))))
 exfalso
 simp_all
termination_by l.length - i
decreasing_by all_goals omega
theorem Same_c (s:Sg) (l:List Decl) (hz:szL Decl.sz l ≤ 2 ^ 40):HC p N38_ [SL 3 (l.map Decl.enc),SL 3 (l.map Decl.enc)] s (fun r s'=>r=[B true] ∧ s'=s):=by
 refine hcf J f38_ J ?_
 simp only [chainOf]
 refine er (qp J (qn (kq2 J) kn (eseq (er (pq5 J (qb ?_))))))
 rintro (_ | _) h1
 ·refine qn (kq3 J) kn (ecF J (eskip (sqn (eseq (er (pq3 J (qn (kq4 J) kn (eblock (same_l1 l hz 0 (by omega) ?_)))))))))
  intro j
  refine bqx (sqn (er (qp J (qn (kq1 J) kn (eret (fqr J ?_))))))
  first
  | exact ⟨rfl,rfl⟩
  | (exfalso;simp_all)
 refine qn (kq3 J) kn (ecT J (er (qp J (qn (kq1 J) kn (eret (sqr (fqr J ?_)))))))
 first
 | exact ⟨rfl,rfl⟩
 | (exfalso;simp_all)
theorem CFun.sz_bod (f:CFun):f.body.sz < f.sz:=by unfold CFun.sz;omega
theorem CFun.sz_par (f:CFun):f.params.length < f.sz:=by unfold CFun.sz;omega
theorem CFun.sz_var (f:CFun):f.vars.length < f.sz:=by unfold CFun.sz;omega
theorem xcore_l (c:Core) (hz:szL CFun.sz c.funs ≤ 2 ^ 40) (i:Nat) (hi:i ≤ c.funs.length) {n:Nat} {v:Nat → Bool} {D:List (Nat × List AV)} {S:Sg} {Q:Ex → Fr → Prop}
 (hX:∀ j,Q (.exit 0) ⟨upd (uv (uv (uv (uv e0 27 (B false)) 26 (I j)) 25 (I (c.funs.map CFun.enc).length)) 24 (SL 8 (c.funs.map CFun.enc))) 3 (some (.loc 3 0)),upd ((fun _=>none)) 3 (some (Core.cs c)),n,v,D,S⟩):EX (callL p) (.loop F11_l1) ⟨upd (uv (uv (uv e0 26 (I i)) 25 (I (c.funs.map CFun.enc).length)) 24 (SL 8 (c.funs.map CFun.enc))) 3 (some (.loc 3 0)),upd ((fun _=>none)) 3 (some (Core.cs c)),n,v,D,S⟩ Q:=by
 refine eloop (er (qp J (qb ?_)))
 rintro (_ | _) h1
 ·refine qn (kq5 J) (kq1 J) (eseq (ecF J (eexit (sqx ?_))))
  exact hX _
 refine qn (kq5 J) (kq1 J) (eseq (ecT J (eskip (sqn (eseq (eblock (er (qp J ?_))))))))
 have hlt:i < c.funs.length:=by simpa using h1
 have hll:=szL_len' (f:=CFun.sz) c.funs CFun.one
 obtain ⟨b,hb⟩:=get_of_lt hlt
 have hbz:=szL_mem (f:=CFun.sz) (Lmg hb)
 have hp1:=CFun.sz_par b
 have hp2:=CFun.sz_var b
 have hp3:=CFun.sz_bod b
 refine hia (y:=.agg (Str b.name :: encArgs b.params :: ints b.vars :: b.body.cs)) rfl rfl (by omega) (by simp [hb,CFun.enc_eq]) rfl (hlda rfl rfl (lc rfl (lc rfl (lc rfl (lc rfl (lc rfl (lc rfl (lc rfl (lc rfl (ln rfl))))))))) (hal (dc (dc (dc (dc (dc (dc (dc (dc dn rfl) rfl) rfl) rfl) rfl) rfl) rfl) rfl) (qp rfl (hstl rfl rfl rfl rfl (Nlb rfl) (lc rfl (lc rfl (lc rfl (lc rfl (lc rfl (lc rfl (lc rfl (lc rfl (ln rfl))))))))) (qk (kc rfl (kc rfl (kc rfl (kc rfl (kc rfl (kc rfl kn)))))) (kc rfl (kc rfl kn)) (sqn (eseq (ereg (qp rfl (qp rfl (qp rfl (hia (y:=.agg (Str b.name :: encArgs b.params :: ints b.vars :: b.body.cs)) rfl rfl (by omega) (by simp [hb,CFun.enc_eq]) rfl (hlda rfl rfl (lc rfl (lc rfl (lc rfl (lc rfl (lc rfl (lc rfl (lc rfl (lc rfl (ln rfl))))))))) (hal (dc (dc (dc (dc (dc (dc (dc (dc (dc (dc (dc dn rfl) rfl) rfl) rfl) rfl) rfl) rfl) rfl) rfl) rfl) rfl) (hstl rfl rfl rfl rfl (Nlb rfl) (lc rfl (lc rfl (lc rfl (lc rfl (lc rfl (lc rfl (lc rfl (lc rfl (ln rfl))))))))) (qk (kc rfl (kc rfl (kc rfl (kc rfl (kc rfl (kc rfl kn)))))) (kc rfl (kc rfl (kc rfl kn))) (sqn (eseq (ereg (qp rfl (qp rfl (qp rfl (qp rfl ?_)))))))))))))))))))))))
 refine qp J (qb ?_)
 rintro (_ | _) h2
 ·refine qp J (qg J (qp J (qg J (qp J (qg J (qp J (qg J (qp J (qg J (hcall J J J (SArgs_c _ _ (by omega)) ?_))))))))))
  rintro _ _ ⟨rfl,rfl⟩
  refine qb ?_
  rintro (_ | _) h3
  ·refine qg J (pq3 J (zq6 J (pq2 J (zq6 J (qp J (qn (kq5 J) (kq1 J) (ecT J (er ?_))))))))
   refine qp J (qn (kq1 J) kn (eret (bqr (sqr ?_))))
   exfalso
   simp_all
  refine qg J (pq3 J (qg J (qp J (qg J (qp J (qg J (qp J (qg J (qp J (qg J (hcall J J J (SameInts_c _ _ _ (by omega)) ?_)))))))))))
  rintro _ _ ⟨rfl,rfl⟩
  refine qb ?_
  rintro (_ | _) h4
  ·refine qg J (pq3 J (zq6 J (qp J (qn (kq5 J) (kq1 J) (ecT J (er (qp J (qn (kq1 J) kn (eret (bqr (sqr ?_)))))))))))
   exfalso
   simp_all
  refine qg rfl (qp rfl (qp rfl (qp rfl (qg rfl (qp rfl (qg rfl (hlda rfl rfl (lc rfl (lc rfl (lc rfl (lc rfl (lc rfl (ln rfl)))))) (qg rfl (qp rfl (qg rfl (hlda rfl rfl (lc rfl (lc rfl (lc rfl (lc rfl (lc rfl (ln rfl)))))) (qg rfl (hcall rfl rfl rfl (Exact_c b.body (by have:=CFun.sz_bod b;omega) _) ?_)))))))))))))
  rintro _ _ ⟨rfl,rfl⟩
  refine qb ?_
  rintro (_ | _) h5
  ·refine qg J (pq2 J (qn (kq5 J) (kq1 J) (ecT J (er (qp J (qn (kq1 J) kn (eret (bqr (sqr ?_)))))))))
   exfalso
   simp_all
  refine qg J (pq2 J (qn (kq5 J) (kq1 J) (ecF J (eskip (bqn (sqn (ereg (hadd J J (i64w (by omega)) (qp J (qk (kq4 J) (kq1 J) ?_))))))))))
  exact xcore_l c hz (i + 1) (by omega) hX
 refine qp J (zq6 J (pq2 J (zq6 J (pq2 J (zq6 J (qp J ?_))))))
 refine qn (kq5 J) (kq1 J) (ecT J (er (qp J (qn (kq1 J) kn (eret (bqr (sqr ?_)))))))
 exfalso
 simp_all
termination_by c.funs.length - i
decreasing_by all_goals omega
theorem ExactCore_c (s:Sg) (c:Core) (hz:c.sz ≤ 2 ^ 40):HC p N11_ [.agg (Core.cs c),.agg (Core.cs c)] s (fun r s'=>r=[B true] ∧ s'=s):=by
 have hz1:szL Decl.sz c.decls ≤ 2 ^ 40:=by unfold Core.sz at hz;omega
 have hz2:szL CFun.sz c.funs ≤ 2 ^ 40:=by unfold Core.sz at hz;omega
 refine hcf J f11_ J ?_
 simp only [chainOf]
 refine er (hbox (dq2 J) J (lq2 J) (hbox (dq3 J) J (lq2 J) (qp J (qn (kq2 J) (kq2 J) (eseq (er (pq4 J (hcall J J J (Same_c _ _ hz1) ?_))))))))
 rintro _ _ ⟨rfl,rfl⟩
 refine qb ?_
 rintro (_ | _) h1
 ·refine pq2 J (zq7 J (qp J (qn (kq3 J) (kq2 J) (ecT J (er (qp J (qn (kq1 J) kn (eret (sqr (fqr J ?_))))))))))
  first
  | exact ⟨rfl,rfl⟩
  | (exfalso;simp_all)
 refine pq2 J (qg J (qp J (qg J (qp J (qg J (qp J (qg J (qp J (qg J (qp J (qg J (qp J (qg J (qp J (qb ?_)))))))))))))))
 rintro (_ | _) h2
 ·refine qp J (qn (kq3 J) (kq2 J) (ecF J (eskip (sqn (eseq (er (pq4 J (qn (kq4 J) (kq1 J) (eblock (xcore_l c hz2 0 (by omega) ?_))))))))))
  intro j
  refine bqx (sqn (er (qp J (qn (kq1 J) kn (eret (fqr J ?_))))))
  first
  | exact ⟨rfl,rfl⟩
  | (exfalso;simp_all)
 refine qp J (qn (kq3 J) (kq2 J) (ecT J (er (qp J (qn (kq1 J) kn (eret (sqr (fqr J ?_))))))))
 first
 | exact ⟨rfl,rfl⟩
 | (exfalso;simp_all)
end Go.Sim.Kd
