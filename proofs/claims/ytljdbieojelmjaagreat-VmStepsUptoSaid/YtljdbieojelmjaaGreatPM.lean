/-
  A part of a proof: see the last text of this claim.
-/
import Derived.Test.YtljdbieojelmjaaGreatPK
set_option linter.unusedVariables false
set_option linter.unusedSimpArgs false
namespace Go.Sim.W
open Go Go.Sim
def LI (v:AV) (l:List Int) (S:Sg):Prop:=(l=[] ∧ ∃ o,v=.slice o 1 []) ∨ ∃ g,v=.ms g 0 l.length 1 ∧ S.mu g=some (l.map I) ∧ g < S.mn
theorem WL.li {v:AV} {l:List Int} {S:Sg} (h:WE 1 v (l.map I) S):LI v l S:=by
 rcases h.2 with ⟨h0,rfl⟩ | ⟨g,rfl,h1,h2⟩
 ·exact .inl ⟨List.length_eq_zero_iff.1 (by simpa using h0),_,rfl⟩
 rw [flat_I] at h1
 exact .inr ⟨g,by rw [List.length_map],h1,h2⟩
theorem LI.ere {v:AV} {l:List Int} {S:Sg} (h:LI v l S):LI v.er l S:=by
 rcases h with ⟨h,o,rfl⟩ | ⟨g,rfl,h⟩
 ·exact .inl ⟨h,_,rfl⟩
 exact .inr ⟨g,rfl,h⟩
theorem clone_n {s:Sg} {v:AV} {l:List Int} (h:LI v l s) (hl:l.length ≤ 2 ^ 40):HC p N37_ [v] s (fun r s'=>∃ v',r=[v'] ∧ WE 1 v' (l.map I) s' ∧ MX [] s s' ∧ ∀ g ∈ tk v',s.mn ≤ g):=by
 have e:p.ov N37_=some (cloneOv 1 8):=rfl
 rcases h with ⟨rfl,o,rfl⟩ | ⟨g,rfl,h1,h2⟩
 ·exact callOv e (r:=[.slice .full 1 []]) (s':=s) (by simp only [cloneOv,if_true]) ⟨_,rfl,⟨rfl,.inl ⟨rfl,rfl⟩⟩,MX.refl _ _,fun g hg=>by cases hg⟩
 by_cases hz:l.length=0
 ·obtain rfl:=List.length_eq_zero_iff.1 hz
  exact callOv e (r:=[.slice .full 1 []]) (s':=s) (by simp only [cloneOv];rfl) ⟨_,rfl,⟨rfl,.inl ⟨rfl,rfl⟩⟩,MX.refl _ _,fun g hg=>by cases hg⟩
 refine callOv e (r:=[.ms s.mn 0 l.length 1]) (s':={ s with mu:=upd s.mu s.mn (some (l.map I)),mn:=s.mn + 1 }) ?_ ⟨_,rfl,⟨by rw [flat_I,List.length_map,Nat.mul_one],.inr ⟨s.mn,by rw [List.length_map],?_,Nat.lt_succ_self _⟩⟩,⟨rfl,rfl,rfl,rfl,rfl,Nat.le_succ _,fun g hg _=>upd_ne _ _ (by omega)⟩,fun g hg=>by rw [List.mem_singleton.1 hg];exact Nat.le_refl _⟩
 ·simp only [cloneOv,if_true,if_neg hz,h1,Obs]
  rw [if_pos ⟨by simp,by omega⟩,List.drop_zero,List.take_of_length_le (by simp)]
 show upd s.mu s.mn _ s.mn=_
 rw [upd_same,flat_I]
theorem frz_n {S:Sg} {v:AV} {l:List Int} (h:LI v l S):∃ o m,frzD 1 S v=some (.slice o 1 (l.map I),{ S with mu:=m }) ∧ ∀ g,g ∉ tk v → m g=S.mu g:=by
 rcases h with ⟨rfl,o,rfl⟩ | ⟨g,rfl,h1,h2⟩
 ·exact ⟨o,S.mu,rfl,fun _ _=>rfl⟩
 refine ⟨.none,upd S.mu g none,?_,fun g' hg=>upd_ne _ _ (by simpa [tk] using hg)⟩
 rw [frzD]
 simp only [h1,Obs,frzDL0']
 rw [if_pos ⟨trivial,nts_I l⟩]
 simp only [frzOf,upd_same,Obs,true_and]
 rw [if_pos (by decide),if_pos (by simp),List.drop_zero,List.take_of_length_le (by simp),upd2,unfl_I]
theorem MP.ere {v:AV} {ws:List Word} {S:Sg} (h:MP v ws S):MP v.er ws S:=by
 rcases h with ⟨h,o,rfl⟩ | ⟨g,off,cs,rfl,h⟩
 ·exact .inl ⟨h,_,rfl⟩
 exact .inr ⟨g,off,cs,rfl,h⟩
theorem nds {a b c:AV} {n1 n2:Nat} (h:n1 ≤ n2) (ha:∀ g ∈ tk a,g < n1) (hb:∀ g ∈ tk b,n1 ≤ g ∧ g < n2) (hc:∀ g ∈ tk c,n2 ≤ g):(tks [a,b,c]).Nodup:=by
 have e:tks [a,b,c]=tk a ++ (tk b ++ tk c):=by simp [tks]
 rw [e]
 refine List.nodup_append.2 ⟨tk_nd a,List.nodup_append.2 ⟨tk_nd b,tk_nd c,fun x hx y hy h=>?_⟩,fun x hx y hy h=>?_⟩
 ·have:=hb x hx
  have:=hc y hy
  omega
 have h1:=ha x hx
 rcases List.mem_append.1 hy with hy | hy
 ·have:=hb y hy;omega
 have:=hc y hy;omega
def trimN (l:List Word):Nat → Nat
 | 0=>0
 | k + 1=>if l[k]?=some w0 then trimN l k else k + 1
def trimR (l:List Word):List Word:=l.take (trimN l l.length)
theorem trimN_le (l:List Word) (k:Nat):trimN l k ≤ k:=by
 induction k with
 | zero=>exact Nat.le_refl _
 | succ k ih =>
   unfold trimN
   split
   ·omega
   exact Nat.le_refl _
theorem aeqW (w u:Word):aeqOf [.b,.i] (.agg [B w.ref,I w.n]) (.agg [B u.ref,I u.n])=some (decide (w=u)):=by
 obtain ⟨a,b⟩:=w
 obtain ⟨c,d⟩:=u
 simp only [aeqOf,ceqs,ceq,B,I,if_true,Obs,Word.mk.injEq,Bool.and_true]
 congr 1
 by_cases h:a=c <;> by_cases h2:b=d <;> simp [h,h2]
theorem haeqW {c:Caller} {l:List AIns} {E:Nat → Option TV} {L:Nat → Option (List AV)} {n:Nat} {v:Nat → Bool} {D:List (Nat × List AV)} {S:Sg} {Q:Fr → Prop} {d:Nat} {ng:Bool} {x y:AO} (w u:Word) (h1:evV E x=some (.agg [B w.ref,I w.n])) (h2:evV E y=some (.agg [B u.ref,I u.n]))
 (k:HL c l ⟨upd E d (some (.val (B (if ng then !(decide (w=u)) else decide (w=u))))),L,n,v,D,S⟩ Q):HL c (⟨some d,none,.aeq ng [.b,.i] x y⟩ :: l) ⟨E,L,n,v,D,S⟩ Q :=
 hop (by simp only [ins,run1,aop,h1,h2,Obs,aeqW];rfl) k
theorem hslT {c0:Caller} {l:List AIns} {d:Nat} {x:AO} {S:Sg} {vc:AV} {c:List Word} {E:Nat → Option TV} {L:Nat → Option (List AV)} {n:Nat} {v:Nat → Bool} {D:List (Nat × List AV)} {Q:Fr → Prop} {hi:AO} {b:Nat} (hc:WE 2 vc (wcs c) S) (hb:b ≤ c.length)
 (h0:evV E x=some vc) (b2:∀ d,boundOf E (some hi) d=some b) (k:∀ r,MP r (c.take b) S → HL c0 l ⟨upd E d (some (.val r)),L,n,v,D,S⟩ Q) :
 HL c0 (⟨some d,none,.sl 2 x none (some hi) none⟩ :: l) ⟨E,L,n,v,D,S⟩ Q:=by
 have hlen:=hc.1
 rw [lw] at hlen
 have eb:∀ q,boundOf E none q=some q:=fun _=>rfl
 rcases hc.2 with ⟨h0',rfl⟩ | ⟨g,rfl,h1,h2⟩
 ·have hz:c=[]:=List.length_eq_zero_iff.1 (by simpa [wcs] using h0')
  subst hz
  obtain rfl:b=0:=by simpa using hb
  refine hslR h0 (r:=.slice .none 2 []) ?_ (k _ (.inl ⟨rfl,_,rfl⟩))
  simp only [slOf,eb,b2,Obs]
  rfl
 refine hslR h0 (r:=.ms g 0 b 2) ?_ (k _ (.inr ⟨g,0,_,?_,h1,h2,?_,?_⟩))
 ·simp only [slOf,eb,b2,Obs]
  rw [if_neg (by simp),if_pos ⟨by omega,by omega,by rw [lw];omega⟩,if_pos (by simp)]
  simp
 ·rw [List.length_take,Nat.min_eq_left hb]
 ·rw [List.length_take,Nat.min_eq_left hb]
  omega
 rw [List.drop_zero,List.length_take,Nat.min_eq_left hb,flat_take (wcs_sz c),wcs,← List.map_take]
 rfl
def VM.nowR (m:VM):Run:=⟨if m.over=true then m.fin else 1,m.val,m.outs,m.steps⟩
theorem HInv.cl {h:RH} (k:HInv h):(cellsF h.obs).length ≤ 2 ^ 40:=Nat.le_trans k.le (by decide)
theorem orderF_len (obs:List HOb):(orderF obs).length=obs.length:=List.length_map ..
theorem objs_c (s:Sg) (i:Nat) (h:RH) (hP:HS i h s):HC p N50_ [.ptr i 0] s (fun r s'=>r=[ints (orderF h.obs)] ∧ KL [] s s'):=by
 obtain ⟨vc,vs,vo,g1,g2,g3,g4,g5,g6⟩:=hP.1
 have hn:=hP.2.n
 have hol:=orderF_len h.obs
 refine hcf J f50_ J ?_
 simp only [chainOf]
 refine er (qp J (qn (kq1 J) kn (eseq (er (qp J (hpeq J J J J J (qb ?_)))))))
 rintro (_ | _) h1
 ·refine qn (kq2 J) kn (ecF J (eskip (sqn (er (pq4 J (hldo J g1 J ?_))))))
  refine hcall J J J (clone_n g5.li.ere (by omega)) ?_
  rintro _ S1 ⟨v1,rfl,w1,w2,w3⟩
  refine qp J (qn (kq1 J) kn ?_)
  obtain ⟨o,mu1,f1,f2⟩:=frz_n w1.li
  refine eretz_env J J f1 (fqr J ?_)
  exact ⟨rfl,w2.kl.frz (fun g hg=>.inr (w3 g hg)) f2⟩
 simp at h1
theorem Hfields_c (s:Sg) (i:Nat) (h:RH) (x:Int) (ob:HOb) (hP:HS i h s) (hx:obAt h.obs x=some ob):HC p N52_ [.ptr i 0,I x] s (fun r s'=>r=[words ob.fs,I 0] ∧ KL [] s s'):=by
 have hh:hasF h.obs x=true:=by rw [hasF,hx];rfl
 have hfl:=hP.2.f ob (obAt_mem hx)
 refine hcf J f52_ J ?_
 simp only [chainOf]
 refine er (pq2 J (qn (kq2 J) kn (eseq (er (pq2 J (hcall J J J (at_c _ i h x hP) ?_))))))
 rintro _ _ ⟨rfl,rfl⟩
 refine qp J (qn (kq3 J) kn (er (pq2 J (qb ?_))))
 rintro (_ | _) h1
 ·refine qn (kq4 J) kn (ecF J (eskip (sqn (er (pq4 J (hcall J J J (hfields_c _ i [I h.size] h.obs x ob hP.1 hP.2.ad hx hP.2.cl) ?_))))))
  rintro _ S0 ⟨u,rfl,rfl,hu,_,hu5⟩
  have hm:MP u ob.fs S0:=by
   rcases hu5 with ⟨h0,rfl⟩ | ⟨vc,vs,vo,g,o1,_,rfl,o4⟩
   ·exact .inl ⟨h0,_,rfl⟩
   rcases hu.2 with ⟨o,e⟩ | ⟨g',off,cs,e,h1,h2,h3,h4⟩
   ·cases e
   rw [lw] at e h3 h4
   exact .inr ⟨g',off,cs,e,h1,h2,h3,h4⟩
  refine hcall J J J (clone_w hm.ere (by omega)) ?_
  rintro _ S1 ⟨v1,rfl,w1,w2,w3⟩
  refine pq2 J (qn (kq2 J) kn ?_)
  obtain ⟨o,mu1,_,f1,f2⟩:=frz_w w1.lm
  refine eretz_env J J f1 (fqr J ?_)
  exact ⟨rfl,w2.kl.frz (fun g hg=>.inr (w3 g hg)) f2⟩
 simp [hh] at h1
end Go.Sim.W
namespace Go.Sim.W
open Go Go.Sim
theorem hfork_c (s:Sg) (i:Nat) (h:RH) (hP:HS i h s):HC p N35_ [.ptr i 0] s (fun r s'=>∃ i',r=[.ptr i' 0] ∧ HS i' h s' ∧ s.nx ≤ i' ∧ KL [] s s' ∧ ∀ g,own [i'] s' g → s.mn ≤ g):=by
 obtain ⟨vc,vs,vo,g1,g2,g3,g4,g5,g6⟩:=hP.1
 have hn:=hP.2.n
 have hcl:=hP.2.cl
 have hol:=orderF_len h.obs
 have hsl:=cells_len h.obs
 refine hcf J f35_ J ?_
 simp only [chainOf]
 refine er (qp J (qn (kq1 J) kn (eseq (er (qp J (hpeq J J J J J (qb ?_)))))))
 rintro (_ | _) h1
 ·refine qn (kq2 J) kn (ecF J (eskip (sqn (er (pq3 J (hldoF J J g1 J ?_))))))
  refine pq4 J (hldo J g1 J ?_)
  refine hcallk J J J (clone_w g3.lm.mp.ere hcl) ?_ ?_
  ·rintro _ S1 ⟨v1,rfl,a1,a2,a3⟩
   exact ⟨.inl ⟨i,0,_,rfl,g1,(congrFun a2.ob i).trans g1⟩,a2.Q⟩
  rintro _ S1 ⟨v1,rfl,a1,a2,a3⟩
  have g1:=(congrFun a2.ob i).trans g1
  have g4:=g4.mx a2 (by simp)
  have g5:=g5.mx a2 (by simp)
  refine pq4 J (hldoF J J g1 J ?_)
  refine hcallk J J J (clone_n g4.li.ere (by omega)) ?_ ?_
  ·rintro _ S2 ⟨v2,rfl,b1,b2,b3⟩
   exact ⟨.inl ⟨i,0,_,rfl,g1,(congrFun b2.ob i).trans g1⟩,b2.Q⟩
  rintro _ S2 ⟨v2,rfl,b1,b2,b3⟩
  have g1:=(congrFun b2.ob i).trans g1
  have g5:=g5.mx b2 (by simp)
  have a0:=a1
  have a1:=a1.mx b2 (by simp)
  refine pq4 J (hldoF J J g1 J ?_)
  refine hcallk J J J (clone_n g5.li.ere (by omega)) ?_ ?_
  ·rintro _ S3 ⟨v3,rfl,c1,c2,c3⟩
   exact ⟨.inl ⟨i,0,_,rfl,g1,(congrFun c2.ob i).trans g1⟩,c2.Q⟩
  rintro _ S3 ⟨v3,rfl,c1,c2,c3⟩
  have a5:=a1.mx c2 (by simp)
  have b5:=b1.mx c2 (by simp)
  refine hbuild (cs:=[v1,v2,v3]) rfl (by simp [fillA,a1.c1,b1.c1,c1.c1]) rfl (hbuild (cs:=[I h.size,v1,v2,v3]) rfl (by simp [fillA,AV.cells,I,a1.c1,b1.c1,c1.c1]) rfl (hboxo (cs:=[I h.size,v1,v2,v3]) rfl (by simp [AV.cells,AV.erTs,a1.erT,b1.erT,c1.erT,I,AV.erT]) (qp rfl (qk (kc rfl kn) kn (sqn (eret (fqr rfl ?_)))))))
  have kk:KL [] s S3:=(a2.kl.trans0 b2.kl).trans0 c2.kl
  have hb:(S3.new (.row [I h.size,v1,v2,v3])).ob S3.nx=some (.row ([I h.size] ++ [v1,v2,v3])):=upd_same _ _ _
  have m1:=a2.mn
  have m2:=b2.mn
  have m3:=c2.mn
  refine ⟨S3.nx,rfl,⟨⟨v1,v2,v3,hb,Nat.lt_succ_self _,a5.mono (fun _ _=>rfl) (Nat.le_refl _),b5.mono (fun _ _=>rfl) (Nat.le_refl _),c1.mono (fun _ _=>rfl) (Nat.le_refl _),nds (n1:=S1.mn) (n2:=S2.mn) b2.mn (fun g hg=>a0.lt g hg) (fun g hg=>⟨b3 g hg,b1.lt g hg⟩) c3⟩,hP.2⟩,kk.e.nx,kk.trans0 (KL.new _ _),fun g hg=>?_⟩
  have hg:=(own_row hb).1 hg
  rw [tks_app] at hg
  rcases List.mem_append.1 hg with hg | hg
  ·simp [tks,tk,I] at hg
  simp only [tks,List.flatMap_cons,List.flatMap_nil,List.append_nil,List.mem_append] at hg
  rcases hg with hg | hg | hg
  ·exact a3 g hg
  ·have:=b3 g hg;omega
  have:=c3 g hg;omega
 simp at h1
theorem KL.set {s S:Sg} (h:KL [] s S) {i:Nat} (hi:s.nx ≤ i) (o:AObj):KL [] s (S.set i o) :=
 ⟨⟨h.e.nx,fun j hj=>(upd_ne _ _ (by omega)).trans (h.e.ob j hj),h.e.gn,h.e.gl,h.e.Q⟩,h.mn,h.mu⟩
theorem HS.setO {i j:Nat} {h:RH} {S:Sg} {o:AObj} (k:HS i h S) (hne:i ≠ j):HS i h (S.set j o):=by
 obtain ⟨vc,vs,vo,g1,g2,g3,g4,g5,g6⟩:=k.1
 exact ⟨⟨vc,vs,vo,(upd_ne _ _ hne).trans g1,g2,g3,g4,g5,g6⟩,k.2⟩
theorem HS.klm {i:Nat} {h:RH} {S S':Sg} (k:HS i h S) (e:KL [] S S'):HS i h S':=⟨k.1.kl e (by simp),k.2⟩
theorem row_erT {m:VM} {ih:Nat} {vr vo:AV} (h1:vr.erT=vr) (h2:vo.erT=vo):(AV.agg (m.row ih vr vo)).erT=.agg (m.row ih vr vo):=by
 simp [VM.row,AV.erT,AV.erTs,h1,h2,ints,SL,I,B,Own.erT]
theorem mheap_c (s:Sg) (im ih:Nat) (m:VM) (hM:MS im ih m s):HC p N29_ [.ptr im 0] s (fun r s'=>∃ i',r=[.ptr i' 0] ∧ HS i' m.h s' ∧ KL [] s s'):=by
 obtain ⟨vr,vo,h1m,h2m,h3m,h4m,h5m⟩:=hM.row
 refine hcf J f29_ J ?_
 simp only [chainOf]
 refine er (qp J (qn (kq1 J) kn (eseq (er (qp J (hpeq J J J J J (qb ?_)))))))
 rintro (_ | _) h1
 ·refine qn (kq2 J) kn (ecF J (eskip (sqn (er (pq3 J (hldo J h1m J ?_))))))
  refine hcall J J J (hfork_c _ ih m.h hM.hp) ?_
  rintro _ S1 ⟨i',rfl,w1,_,w2,_⟩
  refine qp J (qn (kq1 J) kn (eret (fqr J ?_)))
  exact ⟨i',rfl,w1,w2⟩
 simp at h1
theorem mgc_c (s:Sg) (im ih:Nat) (m:VM) (hM:MS im ih m s) (hl:m.regs.length ≤ 2 ^ 30) (hv:validW m.h.obs m.regs=true):HC p N16_ [.ptr im 0] s (fun r s'=>r=[I 0] ∧ MS im ih m.gc s' ∧ KX [im,ih] s s'):=by
 refine hcf J f16_ J ?_
 simp only [chainOf]
 refine er (qp J (qn (kq1 J) kn (eseq (er (qp J (hpeq J J J J J (qb ?_)))))))
 rintro (_ | _) h1
 ·refine qn (kq2 J) kn (ecF J (eskip (sqn (er (qp J (hcall J J J (mcollect_c _ im ih m hM hl hv) ?_))))))
  rintro _ S1 ⟨rfl,w1,w2⟩
  refine qn kn kn (er (qp J (qn (kq1 J) kn (eret (fqr J ?_)))))
  exact ⟨rfl,w1,w2⟩
 simp at h1
theorem mrun_c (s:Sg) (im ih:Nat) (m:VM) (hM:MS im ih m s) (ho:m.outs.length ≤ 2 ^ 40):HC p N27_ [.ptr im 0] s (fun r s'=>r=[.agg m.nowR.cs,B m.over] ∧ KL [] s s'):=by
 obtain ⟨vr,vo,h1m,h2m,h3m,h4m,h5m⟩:=hM.row
 refine hcf J f27_ J ?_
 simp only [chainOf]
 refine er (hal (dc dn J) (qp J (qn (kq2 J) (kq1 J) (eseq (er (qp J (hpeq J J J J J (qb ?_))))))))
 rintro (_ | _) h1
 refine qk (kc rfl (kc rfl (kc rfl kn))) (kc rfl kn) (sqn (ecF rfl (eskip (sqn (eseq (ereg (qp rfl (qp rfl (qp rfl (hldo (y:=.agg [I m.fin,I m.val,vo,I m.steps]) rfl h1m rfl ?_))))))))))
 refine hal (dc (dc (dc (dc (dc (dc (dc dn rfl) rfl) rfl) rfl) rfl) rfl) rfl) (hstl (cs':=[I m.fin,I m.val,vo,I m.steps]) rfl rfl rfl rfl (Nlb rfl) rfl (qk (kc rfl (kc rfl (kc rfl kn))) (kc rfl (kc rfl kn)) (sqn (eseq (ereg (qp rfl (qp rfl (hcall rfl rfl rfl (clone_n h3m.li.ere ho) ?_))))))))
 rintro _ S1 ⟨v1,rfl,w1,w2,w3⟩
 have h1m:=(congrFun w2.ob im).trans h1m
 refine qp rfl (hstl (cs':=[I m.fin,I m.val,v1,I m.steps]) rfl rfl rfl (by rw [w1.c1];rfl) (by rw [w1.c1];exact Nlb rfl) (by rw [w1.c1];rfl) (qk (kc rfl (kc rfl (kc rfl kn))) (kc rfl (kc rfl kn)) (sqn (eseq (eseq (ereg (qp rfl (qp rfl (qp rfl (hldo rfl h1m rfl ?_))))))))))
 refine qb ?_
 rintro (_ | _) h2
 refine qp J (qn (kq4 J) (kq2 J) (ecT J (ereg (qp J (hstl J J J J (Nlb J) (lq4 J) (qn (kq3 J) (kq2 J) (er (hlda J J (lq4 J) (pq3 J (hldoF J J h1m J ?_))))))))))
 rotate_left
 refine qp J (qn (kq4 J) (kq2 J) (ecF J (eskip (sqn (er (hlda J J (lq4 J) (pq3 J (hldoF J J h1m J ?_))))))))
 rotate_left
 simp at h1
 all_goals
  refine hstl J J J J (Nlb J) (lq4 J) (qp J (qn (kq2 J) (kq1 J) ?_))
  first
  | (obtain ⟨o,mu1,f1,f2⟩:=frz_run (a:=1) (b:=m.val) (c:=m.steps) w1
     refine eretz_loc rfl f1 ?_)
  | (obtain ⟨o,mu1,f1,f2⟩:=frz_run (a:=m.fin) (b:=m.val) (c:=m.steps) w1
     refine eretz_loc rfl f1 ?_)
  refine fqr J ?_
  refine ⟨?_,w2.kl.frz (fun g hg=>.inr (w3 g hg)) f2⟩
  have e:m.nowR=⟨if m.over=true then m.fin else 1,m.val,m.outs,m.steps⟩:=rfl
  rw [e]
  first
  | (rw [if_pos (by simpa using h2)];rfl)
  | (rw [if_neg (by simpa using h2)];rfl)
theorem mregs_l (im ih:Nat) (m:VM) (k:Nat) (hk:k ≤ m.regs.length) (hr:m.regs.length ≤ 1024) {n:Nat} {v:Nat → Bool} {D:List (Nat × List AV)} {S:Sg} {Q:Ex → Fr → Prop} (hM:MS im ih m S)
 (hX:Q (.exit 0) ⟨upd (upd (upd ((fun _=>none)) 24 (some (.val (B false)))) 3 (some (.val (I (trimN m.regs k))))) 0 (some (.val (.ptr im 0))),(fun _=>none),n,v,D,S⟩):EX (callL p) (.loop F32_l1) ⟨upd (upd ((fun _=>none)) 3 (some (.val (I k)))) 0 (some (.val (.ptr im 0))),(fun _=>none),n,v,D,S⟩ Q:=by
 refine eloop (eseq (er (pq2 J (qb ?_))))
 rintro (_ | _) h1
 refine qp J (zq10 J (qp J (qn (kq3 J) kn (ecF J (eexit (sqx ?_))))))
 rotate_left
 refine qp J (qg J (qp J (qg J (qp J (qg J (qp J (qg J ?_)))))))
 obtain ⟨vr,vo,h1m,h2m,h3m,h4m,h5m⟩:=hM.row
 refine hldo J h1m J ?_
 refine qg J (qp J (qg J ?_))
 have hkp:(0:Int) < k:=by simpa using h1
 refine hsub J J (i64w (by omega)) (qg J ?_)
 obtain ⟨w,hw0⟩:=get_of_lt (l:=m.regs) (i:=((k:Int)).toNat - 1) (by omega)
 obtain ⟨q,q1,q2⟩:=(h2m.rl (wcs_sz _)).at_ (j:=(k:Int) - 1) (y:=w.enc) (by omega) (by rw [wcs,Lgm,show ((k:Int) - 1).toNat=((k:Int)).toNat - 1 from by omega,hw0];rfl)
 refine hiaR rfl rfl q1 (qg rfl (hldR (y:=.agg [B w.ref,I w.n]) rfl q2 rfl (qg rfl (hbuild rfl rfl (lc rfl (lc rfl (ln rfl))) (qg rfl (haeqW w w0 rfl rfl (qb ?_)))))))
 rintro (_ | _) h2
 refine qp J (qn (kq3 J) kn (ecF J (eexit (sqx ?_))))
 rotate_left
 refine qp J (qn (kq3 J) kn (ecT J (eskip (sqn (eblock (ereg (qp J ?_)))))))
 have hkp:(0:Int) < k:=by simpa using h1
 refine hsub rfl rfl (r:=((k - 1:Nat):Int)) ((i64w (by omega)).trans (by omega)) (qp rfl (qk (kc rfl (kc rfl kn)) kn (bqn ?_)))
 obtain ⟨k,rfl⟩:∃ k',k=k' + 1:=⟨k - 1,by omega⟩
 have he:trimN m.regs (k + 1)=trimN m.regs k:=by
  have hw:w=w0:=by simpa using h2
  rw [trimN,if_pos (by rw [show k=((k + 1:Nat):Int).toNat - 1 from by omega,← hw];exact hw0)]
 rw [he] at hX
 exact mregs_l im ih m k (by omega) hr hM hX
 all_goals
  first
  | (have hz:k=0:=by
      have:decide ((0:Int) < (k:Int))=false:=by assumption
      simp at this
      omega
     subst hz
     exact hX)
  | (obtain ⟨k,rfl⟩:∃ k',k=k' + 1:=⟨k - 1,by omega⟩
     have he:trimN m.regs (k + 1)=k + 1:=by
      have hw:¬ w=w0:=by simpa using h2
      rw [trimN,if_neg fun h=>hw (by rw [show ((k + 1:Nat):Int).toNat - 1=k from by omega,h] at hw0;exact (Option.some.inj hw0).symm)]
     rw [he] at hX
     exact hX)
termination_by k
decreasing_by all_goals omega
end Go.Sim.W
namespace Go.Sim.W
open Go Go.Sim
theorem mregs_c (s:Sg) (im ih:Nat) (m:VM) (hM:MS im ih m s) (hr:m.regs.length ≤ 1024):HC p N32_ [.ptr im 0] s (fun r s'=>r=[words (trimR m.regs)] ∧ KL [] s s'):=by
 obtain ⟨vr,vo,h1m,h2m,h3m,h4m,h5m⟩:=hM.row
 refine hcf J f32_ J ?_
 simp only [chainOf]
 refine er (qp J (qn (kq1 J) kn (eseq (er (qp J (hpeq J J J J J (qb ?_)))))))
 rintro (_ | _) h1
 ·refine qn (kq2 J) kn (ecF J (eskip (sqn (er (pq3 J (hldo J h1m J ?_))))))
  refine hlenA J h2m.len ?_
  rw [lw]
  refine qp J (qn (kq2 J) kn (eseq (eblock (mregs_l im ih m m.regs.length (Nat.le_refl _) hr hM ?_))))
  refine bqx (sqn (er (pq3 J (hldo J h1m J ?_))))
  refine qp rfl (hslT (b:=trimN m.regs m.regs.length) h2m (trimN_le _ _) rfl (fun d=>bI rfl (by omega) (by omega)) ?_)
  intro u hu
  refine hcall rfl rfl rfl (clone_w hu.ere (by rw [List.length_take];omega)) ?_
  rintro _ S1 ⟨v1,rfl,w1,w2,w3⟩
  refine qp J (qn (kq1 J) kn ?_)
  obtain ⟨o,mu1,_,f1,f2⟩:=frz_w w1.lm
  refine eretz_env J J f1 (fqr J ?_)
  exact ⟨rfl,w2.kl.frz (fun g hg=>.inr (w3 g hg)) f2⟩
 simp at h1
theorem mfork_c (s:Sg) (im ih:Nat) (m:VM) (hM:MS im ih m s) (hr:m.regs.length ≤ 2 ^ 30) (ho:m.outs.length ≤ 2 ^ 40):HC p N14_ [.ptr im 0] s (fun r s'=>∃ a i',r=[.ptr a 0] ∧ MS a i' m s' ∧ FR s a i' s'):=by
 obtain ⟨vr,vo,h1m,h2m,h3m,h4m,h5m⟩:=hM.row
 have hne:=hM.lt
 refine hcf J f14_ J ?_
 simp only [chainOf]
 refine er (qp J (qn (kq1 J) kn (eseq (er (qp J (hpeq J J J J J (qb ?_)))))))
 rintro (_ | _) h1
 ·refine qk (kc rfl (kc rfl kn)) kn (sqn (ecF rfl (eskip (sqn (eseq (ereg (qp rfl (qp rfl (hldo (y:=.agg (m.row ih vr vo)) rfl h1m rfl ?_)))))))))
  refine hall (hsto (cs':=m.row ih vr vo) rfl rfl (upd_same _ _ _) rfl (Nlb rfl) (by simp) (by rw [row_erT h2m.erT h3m.erT];rfl) (qk (kc rfl (kc rfl kn)) kn (sqn (eseq (ereg (qp rfl (qp rfl (qp rfl ?_))))))))
  obtain ⟨S0,hS0⟩:∃ S0:Sg,S0=(s.new (.row [I 0,.slice .full 7 [],.slice .full 1 [],.lit (.pointer none),.slice .full 2 [],I 0,I 0,I 0,I 0,I 0,I 0,.slice .full 1 [],I 0,B false])).set s.nx (.row (m.row ih vr vo)):=⟨_,rfl⟩
  have k0:KL [] s S0:=by rw [hS0];exact (KL.new _ _).set (Nat.le_refl _) _
  have n0:S0.ob s.nx=some (.row (m.row ih vr vo)):=by rw [hS0];exact upd_same _ _ _
  have x0:S0.nx=s.nx + 1:=by rw [hS0];rfl
  have y0:S0.mn=s.mn:=by rw [hS0];rfl
  refine hldo J (show _=some (AObj.row (m.row ih vr vo)) from by rw [← (k0.e.ob im hM.lt).trans h1m,hS0]) J ?_
  refine hcall rfl rfl rfl (hfork_c _ ih m.h (by rw [← show S0=(s.new (.row [I 0,.slice .full 7 [],.slice .full 1 [],.lit (.pointer none),.slice .full 2 [],I 0,I 0,I 0,I 0,I 0,I 0,.slice .full 1 [],I 0,B false])).set s.nx (.row (m.row ih vr vo)) from hS0];exact hM.hp.klm k0)) ?_
  rintro _ S1 ⟨i',rfl,hH,hi',k1,ow⟩
  rw [← hS0] at k1 hi' ow
  have n1:=(k1.e.ob s.nx (by omega)).trans n0
  have kk1:=k0.trans0 k1
  have xl1:=k1.e.nx
  have yl1:=k1.mn
  have hne1:i' ≠ s.nx:=by omega
  refine qp rfl (hsto (cs':=m.row i' vr vo) rfl rfl n1 rfl (Nlb rfl) (by simp) rfl ?_)
  obtain ⟨T1,hT1⟩:∃ T1:Sg,T1=S1.set s.nx (.row (m.row i' vr vo)):=⟨_,rfl⟩
  have kt1:KL [] s T1:=by rw [hT1];exact kk1.set (Nat.le_refl _) _
  have nt1:T1.ob s.nx=some (.row (m.row i' vr vo)):=by rw [hT1];exact upd_same _ _ _
  have ht1:HS i' m.h T1:=by rw [hT1];exact hH.setO hne1
  have xt1:T1.nx=S1.nx:=by rw [hT1];rfl
  have yt1:T1.mn=S1.mn:=by rw [hT1];rfl
  have ot1:∀ g,own [i'] T1 g → s.mn ≤ g:=fun g hg=>by
   rw [hT1] at hg
   have:=ow g ((own_set hne1.symm).1 hg)
   omega
  rw [← hT1]
  refine qn (kq2 J) kn (er (pq3 J (hldo J ((kt1.e.ob im hM.lt).trans h1m) J ?_)))
  refine hcall J J J (clone_w (h2m.mono (fun g hg=>kt1.mu g (h2m.lt g hg) (by simp)) kt1.mn).lm.mp.ere (by omega)) ?_
  rintro _ S2 ⟨v1,rfl,a1,a2,a3⟩
  have n2:=(congrFun a2.ob s.nx).trans nt1
  have h2:=ht1.klm a2.kl
  refine qp rfl (hst3 (cs':=m.row i' v1 vo) rfl rfl n2 a1.c1 a1.erT a1.tip (by simp [VM.row]) (by rw [a1.c1];rfl) ?_)
  obtain ⟨T2,hT2⟩:∃ T2:Sg,T2=S2.set s.nx (.row (m.row i' v1 vo)):=⟨_,rfl⟩
  have kt2:KL [] s T2:=by rw [hT2];exact (kt1.trans0 a2.kl).set (Nat.le_refl _) _
  have nt2:T2.ob s.nx=some (.row (m.row i' v1 vo)):=by rw [hT2];exact upd_same _ _ _
  have ht2:HS i' m.h T2:=by rw [hT2];exact h2.setO hne1
  have b1:WE 2 v1 (wcs m.regs) T2:=by rw [hT2];exact a1.mono (fun _ _=>rfl) (Nat.le_refl _)
  have xt2:T2.nx=S2.nx:=by rw [hT2];rfl
  have yt2:T2.mn=S2.mn:=by rw [hT2];rfl
  have ot2:∀ g,own [i'] T2 g → s.mn ≤ g ∧ g < S1.mn:=fun g hg=>by
   rw [hT2] at hg
   have hg:=(own_ob a2.ob).1 ((own_set hne1.symm).1 hg)
   have:=own_lt ht1.1 rfl hg
   have:=ot1 g hg
   omega
  rw [← hT2]
  refine qn (kq2 J) kn (er (pq4 J (hldo J ((kt2.e.ob im hM.lt).trans h1m) J ?_)))
  refine hcall J J J (clone_n (h3m.mono (fun g hg=>kt2.mu g (h3m.lt g hg) (by simp)) kt2.mn).li.ere ho) ?_
  rintro _ S3 ⟨v2,rfl,c1,c2,c3⟩
  have n3:=(congrFun c2.ob s.nx).trans nt2
  have h3:=ht2.klm c2.kl
  have b2:=b1.mx c2 (by simp)
  refine qp rfl (qp rfl (hst3 (cs':=m.row i' v1 v2) rfl rfl n3 c1.c1 c1.erT c1.tip (by simp [VM.row]) (by rw [c1.c1];rfl) (qk (kc rfl kn) kn (sqn (eseq (ereg (qp rfl (qk (kc rfl kn) kn (sqn (eret (fqr rfl ?_)))))))))))
  have xa:=a2.nx
  have ya:=a2.mn
  have xc:=c2.nx
  have yc:=c2.mn
  have hob:(S3.set s.nx (.row (m.row i' v1 v2))).ob s.nx=some (.row (m.row i' v1 v2)):=upd_same _ _ _
  have oo:∀ g,own [i'] (S3.set s.nx (.row (m.row i' v1 v2))) g → s.mn ≤ g ∧ g < S1.mn:=fun g hg=>ot2 g ((own_ob c2.ob).1 ((own_set hne1.symm).1 hg))
  refine ⟨s.nx,i',rfl,⟨hne1.symm,?_,h3.setO hne1,v1,v2,hob,b2.mono (fun _ _=>rfl) (Nat.le_refl _),c1.mono (fun _ _=>rfl) (Nat.le_refl _),?_,fun g hg ho=>?_⟩,(kt2.trans0 c2.kl).set (Nat.le_refl _) _,Nat.le_refl _,by omega,fun g hg=>?_⟩
  ·show s.nx < S3.nx
   omega
  ·refine List.nodup_append.2 ⟨tk_nd _,tk_nd _,fun x hx y hy h=>?_⟩
   have:=a1.lt x hx
   have:=c3 y hy
   omega
  ·have:=oo g ho
   rcases List.mem_append.1 hg with hg | hg
   ·have:=a3 g hg;omega
   have:=c3 g hg;omega
  rcases own_two.1 hg with hg | hg
  ·have hg:=(own_im hob).1 hg
   rcases List.mem_append.1 hg with hg | hg
   ·have:=a3 g hg;omega
   have:=c3 g hg;omega
  exact (oo g hg).1
 simp at h1
end Go.Sim.W
namespace Go.Sim.W
open Go Go.Sim
theorem weq_l (a:List Word) (i:Nat) (hi:i ≤ a.length) (hs:a.length ≤ 2 ^ 40) {n:Nat} {v:Nat → Bool} {D:List (Nat × List AV)} {S:Sg} {Q:Ex → Fr → Prop}
 (hX:∀ j,Q (.exit 0) ⟨upd (upd (upd (upd (upd ((fun _=>none)) 14 (some (.val (B false)))) 13 (some (.val (I j)))) 12 (some (.val (I (a.map Word.enc).length)))) 1 (some (.val (words a)))) 0 (some (.val (words a))),(fun _=>none),n,v,D,S⟩):EX (callL p) (.loop F31_l1) ⟨upd (upd (upd (upd ((fun _=>none)) 13 (some (.val (I i)))) 12 (some (.val (I (a.map Word.enc).length)))) 1 (some (.val (words a)))) 0 (some (.val (words a))),(fun _=>none),n,v,D,S⟩ Q:=by
 refine eloop (er (qp J (qb ?_)))
 rintro (_ | _) h1
 ·refine qn (kq5 J) kn (eseq (ecF J (eexit (sqx ?_))))
  exact hX _
 refine qn (kq5 J) kn (eseq (ecT J (eskip (sqn (eseq (eblock (er (pq2 J (qn (kq5 J) kn (er (pq2 J ?_)))))))))))
 have hlt:i < a.length:=by simpa using h1
 obtain ⟨w,hw⟩:=get_of_lt hlt
 refine hia (y:=.agg [B w.ref,I w.n]) rfl rfl (by omega) (by rw [Lgm,Int.toNat_natCast,hw];rfl) rfl ?_
 refine hlda J J (lq2 J) (pq2 J ?_)
 refine hia (y:=.agg [B w.ref,I w.n]) rfl rfl (by omega) (by rw [Lgm,Int.toNat_natCast,hw];rfl) rfl ?_
 refine hlda J J (lq2 J) (haeqW w w J J (qb ?_))
 rintro (_ | _) h2
 ·refine qn (kq5 J) kn (ecF J (eskip (bqn (sqn (ereg (hadd J J (i64w (by omega)) (qp J (qk (kq4 J) kn ?_))))))))
  exact weq_l a (i + 1) (by omega) hs hX
 simp at h2
termination_by a.length - i
decreasing_by all_goals omega
theorem weq_c (s:Sg) (a:List Word) (hs:a.length ≤ 2 ^ 40):HC p N31_ [words a,words a] s (fun r s'=>r=[B true] ∧ s'=s):=by
 refine hcf J f31_ J ?_
 simp only [chainOf]
 refine er (qp J (qn (kq2 J) kn (eseq (er (pq5 J (qb ?_))))))
 rintro (_ | _) h1
 ·refine qn (kq3 J) kn (ecF J (eskip (sqn (eseq (er (pq3 J (qn (kq4 J) kn (eblock (weq_l a 0 (by omega) hs ?_)))))))))
  intro j
  refine bqx (sqn (er (qp J (qn (kq1 J) kn (eret (fqr J ?_))))))
  exact ⟨rfl,rfl⟩
 simp at h1
theorem heq_l (h:RH) (hi:HInv h) (i:Nat) (hil:i ≤ h.obs.length) {n:Nat} {v:Nat → Bool} {D:List (Nat × List AV)} {S:Sg} {Q:Ex → Fr → Prop}
 (hX:∀ j,Q (.exit 0) ⟨upd (upd (upd (upd (upd ((fun _=>none)) 19 (some (.val (B false)))) 18 (some (.val (I j)))) 17 (some (.val (I (h.obs.map HOb.enc).length)))) 16 (some (.val (SL 3 (h.obs.map HOb.enc))))) 3 (some (.loc 3 0)),upd ((fun _=>none)) 3 (some (h.cs)),n,v,D,S⟩):EX (callL p) (.loop F34_l1) ⟨upd (upd (upd (upd ((fun _=>none)) 18 (some (.val (I i)))) 17 (some (.val (I (h.obs.map HOb.enc).length)))) 16 (some (.val (SL 3 (h.obs.map HOb.enc))))) 3 (some (.loc 3 0)),upd ((fun _=>none)) 3 (some (h.cs)),n,v,D,S⟩ Q:=by
 refine eloop (er (qp J (qb ?_)))
 rintro (_ | _) h1
 ·refine qn (kq5 J) (kq1 J) (eseq (ecF J (eexit (sqx ?_))))
  exact hX _
 refine qn (kq5 J) (kq1 J) (eseq (ecT J (eskip (sqn (eseq (eblock (er (qp J ?_))))))))
 have hlt:i < h.obs.length:=by simpa using h1
 obtain ⟨o,ho⟩:=get_of_lt hlt
 have hn:=hi.n
 have hfo:=hi.f o (Lmg ho)
 refine hia (y:=.agg o.cs) rfl rfl (by omega) (by rw [Lgm,Int.toNat_natCast,ho];rfl) rfl ?_
 refine hlda J J (lq3 J) (hal (dq8 J) (qp J (hstl J J J J (Nlb J) (lq3 J) (qn (kq6 J) (kq2 J) (er (pq3 J ?_))))))
 refine hia (y:=.agg o.cs) rfl rfl (by omega) (by rw [Lgm,Int.toNat_natCast,ho];rfl) rfl ?_
 refine hlda J J (lq3 J) (hal (dq11 J) (hstl J J J J (Nlb J) (lq3 J) (qn (kq6 J) (kq3 J) (er (pq5 J (qb ?_))))))
 rintro (_ | _) h2
 ·refine qp J (qg J (qp J (qg J (qp J (qg J (qp J (qg J (qp J (qg J (qp J (qb ?_)))))))))))
  rintro (_ | _) h3
  ·refine pq2 J (qg J (qp J (qg J (qp J (qg J (qp J (qg J (qp J (qg J (hcall J J J (weq_c _ o.fs (by omega)) ?_))))))))))
   rintro _ _ ⟨rfl,rfl⟩
   refine qb ?_
   rintro (_ | _) h4
   ·simp at h4
   refine qg J (pq2 J (qn (kq5 J) (kq1 J) (ecF J (eskip (bqn (sqn (ereg ?_)))))))
   have hn:=hi.n
   refine hadd J J (i64w (by omega)) (qp J (qk (kq4 J) (kq1 J) ?_))
   exact heq_l h hi (i + 1) (by omega) hX
  simp at h3
 simp at h2
termination_by h.obs.length - i
decreasing_by all_goals omega
theorem heq_c (s:Sg) (h:RH) (hi:HInv h):HC p N34_ [.agg h.cs,.agg h.cs] s (fun r s'=>r=[B true] ∧ s'=s):=by
 refine hcf J f34_ J ?_
 simp only [chainOf]
 refine er (hbox (dq2 J) J (lq2 J) (hbox (dq3 J) J (lq2 J) (qp J (qn (kq2 J) (kq2 J) (eseq (er (pq6 J (qp J (qb ?_)))))))))
 rintro (_ | _) h1
 ·refine qn (kq3 J) (kq2 J) (ecF J (eskip (sqn (eseq (er (pq4 J (qn (kq4 J) (kq1 J) (eblock (heq_l h hi 0 (by omega) ?_)))))))))
  intro j
  refine bqx (sqn (er (qp J (qn (kq1 J) kn (eret (fqr J ?_))))))
  exact ⟨rfl,rfl⟩
 simp at h1
theorem rnow_c (s:Sg) (m:VM) (nw:Int):HC p N30_ [.agg (m.rcs nw)] s (fun r s'=>r=[.agg m.nowR.cs] ∧ s'=s):=by
 refine hcf J f30_ J ?_
 simp only [chainOf]
 refine er (hbox (dc dn J) J (lq15 J) (hal (dq2 J) (qn (kq2 J) (kq2 J) (er (qp J (hlda J J (lq4 J) (hal (dq4 J) (hstl J J J J (Nlb J) (lq4 J) (qn (kq3 J) (kq3 J) (eseq (er (pq2 J (qb ?_)))))))))))))
 rintro (_ | _) h1
 refine qp J (qn (kq3 J) (kq2 J) (ecT J (ereg (qp J (hstl J J J J (Nlb J) (lq4 J) (qn (kq2 J) (kq2 J) (er (hlda J J (lq4 J) (hstl J J J J (Nlb J) (lq4 J) (qn (kq1 J) (kq1 J) (eret (fqr J ?_))))))))))))
 rotate_left
 refine qp J (qn (kq3 J) (kq2 J) (ecF J (eskip (sqn (er (hlda J J (lq4 J) (hstl J J J J (Nlb J) (lq4 J) (qn (kq1 J) (kq1 J) (eret (fqr J ?_))))))))))
 rotate_left
 all_goals
  have e:m.nowR=⟨if m.over=true then m.fin else 1,m.val,m.outs,m.steps⟩:=rfl
  rw [e]
  first
  | (rw [if_pos (by simpa using h1)];exact ⟨rfl,rfl⟩)
  | (rw [if_neg (by simpa using h1)];exact ⟨rfl,rfl⟩)
theorem trim_pre {l m:List Word} {k:Nat} (h:k ≤ l.length):trimN (l ++ m) k=trimN l k:=by
 induction k with
 | zero=>rfl
 | succ k ih =>
   unfold trimN
   rw [List.getElem?_append_left (by omega),ih (by omega)]
theorem trim_rep {l:List Word} {n k:Nat} (h:k ≤ n):trimN (l ++ List.replicate n w0) (l.length + k)=trimN (l ++ List.replicate n w0) l.length:=by
 induction k with
 | zero=>rfl
 | succ k ih =>
   rw [show l.length + (k + 1)=(l.length + k) + 1 from rfl,trimN,if_pos,ih (by omega)]
   rw [List.getElem?_append_right (by omega),List.getElem?_replicate,if_pos (by omega)]
theorem trim_pad (l:List Word) (n:Nat):trimR (padR l n)=trimR l:=by
 unfold trimR padR
 rw [List.length_append,List.length_replicate,trim_rep (Nat.le_refl _),trim_pre (Nat.le_refl _),List.take_append_of_le_length (trimN_le _ _)]
theorem rregs_l (m:VM) (nw:Int) (k:Nat) (hk:k ≤ (padR m.regs 1024).length) (hr:(padR m.regs 1024).length=1024) {n:Nat} {v:Nat → Bool} {D:List (Nat × List AV)} {S:Sg} {Q:Ex → Fr → Prop}
 (hX:Q (.exit 0) ⟨upd (upd (upd ((fun _=>none)) 18 (some (.val (B false)))) 3 (some (.val (I (trimN (padR m.regs 1024) k))))) 1 (some (.loc 1 0)),upd ((fun _=>none)) 1 (some (m.rcs nw)),n,v,D,S⟩):EX (callL p) (.loop F33_l1) ⟨upd (upd ((fun _=>none)) 3 (some (.val (I k)))) 1 (some (.loc 1 0)),upd ((fun _=>none)) 1 (some (m.rcs nw)),n,v,D,S⟩ Q:=by
 refine eloop (eseq (er (pq2 J (qb ?_))))
 rintro (_ | _) h1
 refine qp J (zq8 J (qp J (qn (kq3 J) (kq1 J) (ecF J (eexit (sqx ?_))))))
 rotate_left
 refine qp J (qg J (qp J (qg J (qp J (qg J (qp J (qg J ?_)))))))
 have hkp:(0:Int) < k:=by simpa using h1
 refine hsub J J (i64w (by omega)) (qg J ?_)
 obtain ⟨w,hw0⟩:=get_of_lt (l:=padR m.regs 1024) (i:=((k:Int)).toNat - 1) (by omega)
 refine hia (y:=.agg [B w.ref,I w.n]) rfl rfl (by omega) (by rw [Lgm,show ((k:Int) - 1).toNat=((k:Int)).toNat - 1 from by omega,hw0];rfl) rfl ?_
 refine qg J (hlda J J (lq2 J) (qg J (hbuild J J (lq2 J) (qg J (haeqW w w0 J J (qb ?_))))))
 rintro (_ | _) h2
 refine qp J (qn (kq3 J) (kq1 J) (ecF J (eexit (sqx ?_))))
 rotate_left
 refine qp J (qn (kq3 J) (kq1 J) (ecT J (eskip (sqn (eblock (ereg (qp J ?_)))))))
 have hkp:(0:Int) < k:=by simpa using h1
 refine hsub rfl rfl (r:=((k - 1:Nat):Int)) ((i64w (by omega)).trans (by omega)) (qp rfl (qk (kc rfl (kc rfl kn)) (kc rfl kn) (bqn ?_)))
 obtain ⟨k,rfl⟩:∃ k',k=k' + 1:=⟨k - 1,by omega⟩
 have he:trimN (padR m.regs 1024) (k + 1)=trimN (padR m.regs 1024) k:=by
  have hw:w=w0:=by simpa using h2
  rw [trimN,if_pos (by rw [show k=((k + 1:Nat):Int).toNat - 1 from by omega,← hw];exact hw0)]
 rw [he] at hX
 exact rregs_l m nw k (by omega) hr hX
 all_goals
  first
  | (have hz:k=0:=by
      have:decide ((0:Int) < (k:Int))=false:=by assumption
      simp at this
      omega
     subst hz
     exact hX)
  | (obtain ⟨k,rfl⟩:∃ k',k=k' + 1:=⟨k - 1,by omega⟩
     have he:trimN (padR m.regs 1024) (k + 1)=k + 1:=by
      have hw:¬ w=w0:=by simpa using h2
      rw [trimN,if_neg fun h=>hw (by rw [show ((k + 1:Nat):Int).toNat - 1=k from by omega,h] at hw0;exact (Option.some.inj hw0).symm)]
     rw [he] at hX
     exact hX)
termination_by k
decreasing_by all_goals omega
theorem rregs_c (s:Sg) (m:VM) (nw:Int) (rl:m.regs.length ≤ 1024):HC p N33_ [.agg (m.rcs nw)] s (fun r s'=>r=[words (trimR m.regs)] ∧ s'=s):=by
 have hpl:=padR_len' rl
 have htl:=trimN_le (padR m.regs 1024) (padR m.regs 1024).length
 refine hcf J f33_ J ?_
 simp only [chainOf]
 refine er (hbox (dc dn J) J (lq15 J) (qp J (qn (kq1 J) (kq1 J) (er (pq2 J (hlenA J J ?_))))))
 rw [List.length_map]
 refine qp J (qn (kq2 J) (kq1 J) (eseq (eblock (rregs_l m nw (padR m.regs 1024).length (Nat.le_refl _) hpl ?_))))
 refine bqx (sqn (eseq (ereg (qp rfl (qp rfl (qp rfl (hsl (a:=0) (b:=trimN (padR m.regs 1024) (padR m.regs 1024).length) (r:=(trimR (padR m.regs 1024)).map Word.enc) rfl rfl (bI rfl (by omega) (by omega)) ⟨Nat.zero_le _,by rw [List.length_map];exact htl⟩ (by rw [List.drop_zero,← List.map_take];rfl) ?_)))))))
 rw [trim_pad]
 refine qp J (qn (kq1 J) kn (eret (fqr J ?_)))
 exact ⟨rfl,rfl⟩
end Go.Sim.W
namespace Go.Sim.W
open Go Go.Sim
theorem objs_l (i:Nat) (h:RH) (s0:Sg) (o:Own) (j:Nat) (hj:j ≤ h.obs.length) {n:Nat} {v:Nat → Bool} {D:List (Nat × List AV)} {S:Sg} {Q:Ex → Fr → Prop} (hc:Can o v) (hP:HS i h S) (hK:KL [] s0 S)
 (hX:∀ k n' v' o' S',KL [] s0 S' → Q (.exit 0) ⟨upd (upd (upd (upd (upd (upd (upd ((fun _=>none)) 22 (some (.val (B false)))) 21 (some (.val (I k)))) 20 (some (.val (I ((orderF h.obs).map I).length)))) 19 (some (.val (ints (orderF h.obs))))) 6 (some (.loc 6 0))) 4 (some (.loc 4 0))) 0 (some (.val (.ptr i 0))),upd (upd ((fun _=>none)) 6 (some ([I h.size,.slice o' 3 (h.obs.map HOb.enc)]))) 4 (some ([I 0,.slice .full 3 []])),n',v',D,S'⟩):EX (callL p) (.loop F28_l1) ⟨upd (upd (upd (upd (upd (upd ((fun _=>none)) 21 (some (.val (I j)))) 20 (some (.val (I ((orderF h.obs).map I).length)))) 19 (some (.val (ints (orderF h.obs))))) 6 (some (.loc 6 0))) 4 (some (.loc 4 0))) 0 (some (.val (.ptr i 0))),upd (upd ((fun _=>none)) 6 (some ([I h.size,.slice o 3 ((h.obs.take j).map HOb.enc)]))) 4 (some ([I 0,.slice .full 3 []])),n,v,D,S⟩ Q:=by
 refine eloop (er (qp J (qb ?_)))
 rintro (_ | _) h1
 ·refine qn (kq7 J) (kq2 J) (eseq (ecF J (eexit (sqx ?_))))
  obtain rfl:j=h.obs.length:=by have:¬ j < h.obs.length:=by simpa [orderF] using h1
                                omega
  rw [List.take_length]
  exact hX _ _ _ _ _ hK
 refine qn (kq7 J) (kq2 J) (eseq (ecT J (eskip (sqn (eseq (eblock (er ?_)))))))
 have hlt:j < h.obs.length:=by simpa [orderF] using h1
 obtain ⟨ob,hob⟩:=get_of_lt hlt
 have hn:=hP.2.n
 have hat:=obAt_get hP.2.ad hob
 refine hia (y:=I ob.at_) rfl rfl (by omega) (by simp [orderF,hob]) rfl (qp rfl (qp rfl (qk (kc rfl (kc rfl (kc rfl (kc rfl (kc rfl (kc rfl (kc rfl kn))))))) (kc rfl (kc rfl kn)) (sqn (eseq (ereg (qp rfl (qp rfl (hcall rfl rfl rfl (Htag_c _ i h ob.at_ ob hP hat) ?_)))))))))
 rintro _ _ ⟨rfl,rfl⟩
 refine pq5 J (qn (kq9 J) (kq2 J) (er (pq2 J (hcall J J J (Hfields_c _ i h ob.at_ ob hP hat) ?_))))
 rintro _ S1 ⟨rfl,w1⟩
 have hP2:=hP.klm w1
 refine pq5 J (qn (kq11 J) (kq2 J) (eseq (er (pq2 J (qb ?_)))))
 rintro (_ | _) h2
 ·refine qp J (qg J (qp J (qg J (qp J (qb ?_)))))
  rintro (_ | _) h3
  ·refine qp rfl (qk (kc rfl (kc rfl (kc rfl (kc rfl (kc rfl (kc rfl (kc rfl (kc rfl (kc rfl (kc rfl kn)))))))))) (kc rfl (kc rfl kn)) (sqn (ecF rfl (eskip (sqn (ereg (qp rfl (qp rfl (qp rfl (qp rfl (qp rfl (hbuild rfl rfl (lc rfl (lc rfl (lc rfl (ln rfl)))) (hbsl (q':=[ob.enc]) rfl rfl rfl (hapC rfl rfl hc (by simp) (by simp;omega) (r:=(h.obs.take (j + 1)).map HOb.enc) (by rw [List.take_add_one,hob];simp) ?_))))))))))))))
   intro v' hv1 hv2
   refine qp J (hstl J J J J (Nlb J) (lq2 J) (qk (kq6 J) (kq2 J) (bqn (sqn (ereg (hadd J J (i64w (by omega)) (qp J (qk (kq6 J) (kq2 J) ?_))))))))
   exact objs_l i h s0 (.tip _) (j + 1) (by omega) hv1 hP2 (hK.trans0 w1) hX
  simp at h3
 simp at h2
termination_by h.obs.length - j
decreasing_by all_goals omega
theorem objs_law (s:Sg) (i:Nat) (h:RH) (hP:HS i h s):HC p N28_ [.ptr i 0,I h.size] s (fun r s'=>r=[.agg h.cs,B true] ∧ KL [] s s'):=by
 refine hcf J f28_ J ?_
 simp only [chainOf]
 refine er (hal (dq2 J) (qp J (qn (kq3 J) (kq1 J) (er (qp J (hbuild J J (lq2 J) (hal (dq5 J) (hstl J J J J (Nlb J) (lq2 J) (qn (kq3 J) (kq2 J) (eseq (er (qp J (hpeq J J J J J (qb ?_))))))))))))))
 rintro (_ | _) h1
 ·refine qn (kq4 J) (kq2 J) (ecF J (eskip (sqn (eseq (er (qp J (hcall J J J (objs_c _ i h hP) ?_)))))))
  rintro _ S1 ⟨rfl,w1⟩
  have hP:=hP.klm w1
  refine pq2 J (qn (kq6 J) (kq2 J) (eblock (objs_l i h s .full 0 (by omega) trivial hP w1 ?_)))
  intro j n' v' o' S' w2
  refine bqx (sqn (er (hlda J J (lq2 J) (hstl J J J J (Nlb J) (lq2 J) (qp J (qn (kq2 J) (kq1 J) (eret (fqr J ?_))))))))
  exact ⟨rfl,w2⟩
 simp at h1
theorem MInv.gc {m:VM} (h:MInv m):MInv m.gc:=by
 obtain ⟨h1,h2,h3,h4⟩:=collect_inv h.hi h.v
 exact ⟨h.ok,h1,h2,by show (collectP m.h m.regs).2.length ≤ _;rw [h3];exact h.rl,h.at0,h.st,h.nw,h.ol⟩
theorem MInv.ol40 {m:VM} (h:MInv m):m.outs.length ≤ 2 ^ 40:=h.ri.ol
theorem MInv.r30 {m:VM} (h:MInv m):m.regs.length ≤ 2 ^ 30:=Nat.le_trans h.rl (by decide)
theorem state_c (s:Sg) (im ih:Nat) (m:VM) (nw:Int) (hM:MS im ih m s) (hI:MInv m):HC p N13_ [.ptr im 0,.agg (m.rcs nw)] s (fun r s'=>r=[B true] ∧ KL [] s s'):=by
 refine hcf J f13_ J ?_
 simp only [chainOf]
 refine er (hbox (dq2 J) J (lq15 J) (qp J (qn (kq2 J) (kq1 J) (er (qp J (hcall J J J (mrun_c _ im ih m hM hI.ol40) ?_))))))
 rintro _ S1 ⟨rfl,k1⟩
 have hM:=hM.kl k1
 refine pq3 J (hal (dq7 J) (hstl J J J J (Nlb J) (lq4 J) (qp J (qn (kq4 J) (kq2 J) (eseq (ereg_1 (dq4 J) (qp J (hcall J J J (mheap_c _ im ih m hM) ?_))))))))
 rintro _ S2 ⟨i',rfl,hH,k2⟩
 have hM:=hM.kl k2
 refine pq3 J (hcall J J J (objs_law _ i' m.h hH) ?_)
 rintro _ S3 ⟨rfl,k3⟩
 have hM:=hM.kl k3
 refine pq3 J (qb ?_)
 rintro (_ | _) h1
 refine hal (dq13 J) (hstl J J J J (Nlb J) (lq2 J) (qp J (qn (kq6 J) (kq3 J) (er (pq2 J (zq4 J (pq2 J (zq4 J (pq2 J (zq3 J ?_))))))))))
 refine zq2 J (pq2 J (zq5 J (pq2 J (zq4 J (pq2 J (qn (kq1 J) kn (eret (fqr J ?_))))))))
 rotate_left
 refine hal (dq13 J) (hstl J J J J (Nlb J) (lq2 J) (qp J (qn (kq6 J) (kq3 J) (er (pq2 J (qg J (qp J (qg J (qp J (qg J (qp J (qg J (qp J (qb ?_))))))))))))))
 rintro (_ | _) h2
 refine pq2 J (zq4 J (pq2 J (zq5 J (pq2 J (zq5 J (pq2 J (zq2 J ?_)))))))
 refine zq2 J (pq2 J (qn (kq1 J) kn (eret (fqr J ?_))))
 rotate_left
 refine pq2 J (qg J (hlda J J (lq4 J) (qg J (hlda J J (lq15 J) (qg J (hcall J J J (rnow_c _ m nw) ?_))))))
 rintro _ _ ⟨rfl,rfl⟩
 refine qg J (hcall J J J (same18_c _ m.nowR m.nowR hI.ol40) ?_)
 rintro _ _ ⟨rfl,rfl⟩
 rw [same_refl]
 refine qb ?_
 rintro (_ | _) h3
 refine pq2 J (zq5 J (pq2 J (zq5 J (pq2 J (zq4 J (pq2 J (qn (kq1 J) kn ?_)))))))
 refine eret (fqr J ?_)
 rotate_left
 refine pq2 J (qg J (qp J (qg J (hcall J J J (mat_c _ im ih m hM) ?_))))
 rintro _ _ ⟨rfl,rfl⟩
 refine qg J (qp J (qg J (qp J (qg J (qp J (qb ?_))))))
 rintro (_ | _) h4
 refine pq2 J (zq5 J (pq2 J (zq4 J (pq2 J (qn (kq1 J) kn (eret (fqr J ?_)))))))
 rotate_left
 refine pq2 J (qg J (qp J (qg J (hcall J J J (mregs_c _ im ih m hM hI.rl) ?_))))
 rintro _ S4 ⟨rfl,k4⟩
 refine qg J (hlda J J (lq15 J) (qg J (hcall J J J (rregs_c _ m nw hI.rl) ?_)))
 rintro _ _ ⟨rfl,rfl⟩
 refine qg rfl (hcall rfl rfl rfl (weq_c _ (trimR m.regs) (by have:=hI.rl;rw [trimR,List.length_take];omega)) ?_)
 rintro _ _ ⟨rfl,rfl⟩
 refine qb ?_
 rintro (_ | _) h5
 refine pq2 J (zq4 J (pq2 J (qn (kq1 J) kn (eret (fqr J ?_)))))
 rotate_left
 refine pq2 J (qg J (hlda J J (lq2 J) (qg J (qp J (qg J (hlda J J (lq2 J) (qg J (hcall J J J (heq_c _ m.h hI.hi) ?_))))))))
 rintro _ _ ⟨rfl,rfl⟩
 refine pq2 J (qn (kq1 J) kn (eret (fqr J ?_)))
 rotate_left
 all_goals
  first
  | exact ⟨rfl,((k1.trans0 k2).trans0 k3).trans0 k4⟩
  | (exfalso;simp_all;done)
def VM.doP (m:VM) (d:Int):VM:=if d=0 then m.step.1 else if d=1 then m.gc else m
theorem beq_true (b:Bool):[(.lit (.bool (b == b)):AV)]=[B true]:=by simp [B]
theorem MS.own_lt {im ih:Nat} {m:VM} {S:Sg} (h:MS im ih m S) {g:Nat} (ho:own [im,ih] S g):g < S.mn:=by
 obtain ⟨vr,vo,h1,h2,h3,_⟩:=h.row
 rcases own_two.1 ho with ho | ho
 ·rcases List.mem_append.1 ((own_im h1).1 ho) with hg | hg
  ·exact h2.lt g hg
  exact h3.lt g hg
 exact W.own_lt h.hp.1 rfl ho
theorem MS.kx {im ih a b:Nat} {m:VM} {S S':Sg} (h:MS a b m S) (k:KX [im,ih] S S') (ha:a ∉ [im,ih]) (hb:b ∉ [im,ih]) (hd:∀ g,own [a,b] S g → ¬ own [im,ih] S g):MS a b m S' ∧ ∀ g,own [a,b] S' g → ¬ own [im,ih] S' g:=by
 have hlt:=h.lth
 have ea:S'.ob a=S.ob a:=k.ob a (hlt a (by simp)) ha
 have eb:S'.ob b=S.ob b:=k.ob b (hlt b (by simp)) hb
 have eo:∀ g,own [a,b] S' g → own [a,b] S g:=fun g ho=>by
  rcases own_two.1 ho with ⟨i,hi,row,r1,r2⟩ | ⟨i,hi,row,r1,r2⟩
  ·obtain rfl:=List.mem_singleton.1 hi
   exact own_two.2 (.inl ⟨i,hi,row,ea ▸ r1,r2⟩)
  obtain rfl:=List.mem_singleton.1 hi
  exact own_two.2 (.inr ⟨i,hi,row,eb ▸ r1,r2⟩)
 have em:∀ g,own [a,b] S g → S'.mu g=S.mu g:=fun g ho=>k.mu g (h.own_lt ho) (hd g ho)
 obtain ⟨vr,vo,h1,h2,h3,h4,h5⟩:=h.row
 obtain ⟨vc,vs,vp,g1,g2,g3,g4,g5,g6⟩:=h.hp.1
 have oa:∀ g ∈ tk vr ++ tk vo,own [a,b] S g:=fun g hg=>own_two.2 (.inl ((own_im h1).2 hg))
 have ob:∀ g ∈ tks [vc,vs,vp],own [a,b] S g:=fun g hg=>own_two.2 (.inr ((own_row g1).2 (by rw [tks_app];exact List.mem_append_right _ hg)))
 refine ⟨⟨h.ne,Nat.lt_of_lt_of_le h.lt k.nx,⟨⟨vc,vs,vp,eb.trans g1,Nat.lt_of_lt_of_le g2 k.nx,g3.mono (fun g hg=>em g (ob g (by simp [tks,hg]))) k.mn,g4.mono (fun g hg=>em g (ob g (by simp [tks,hg]))) k.mn,g5.mono (fun g hg=>em g (ob g (by simp [tks,hg]))) k.mn,g6⟩,h.hp.2⟩,vr,vo,ea.trans h1,h2.mono (fun g hg=>em g (oa g (by simp [hg]))) k.mn,h3.mono (fun g hg=>em g (oa g (by simp [hg]))) k.mn,h4,fun g hg ho=>h5 g hg ?_⟩,fun g ho ho'=>?_⟩
 ·obtain ⟨i,hi,row,r1,r2⟩:=ho
  obtain rfl:=List.mem_singleton.1 hi
  exact ⟨i,hi,row,eb ▸ r1,r2⟩
 have h':=eo g ho
 rcases k.own g ho' with h2 | h2
 ·exact hd g h' h2
 have:=h.own_lt h'
 omega
theorem fr_apart {im ih a b:Nat} {m m':VM} {s S:Sg} (h:MS im ih m s) (f:FR s a b S):a ∉ [im,ih] ∧ b ∉ [im,ih] ∧ ∀ g,own [a,b] S g → ¬ own [im,ih] S g:=by
 have h1:=h.lt
 have h2:=h.hp.1.lt
 have h3:=f.nim
 have h4:=f.nih
 refine ⟨by simp;omega,by simp;omega,fun g ho ho'=>?_⟩
 have h5:=f.own g ho
 have:own [im,ih] s g:=by
  rcases own_two.1 ho' with h' | h'
  ·exact own_two.2 (.inl (f.kl.own h1 h'))
  exact own_two.2 (.inr (f.kl.own h2 h'))
 have:=h.own_lt this
 omega
theorem do_c (s:Sg) (im ih:Nat) (m:VM) (nw d:Int) (hM:MS im ih m s) (hI:MInv m) (tg:TG m.h) (hnw:m.over=false → nw=m.news):HC p N17_ [.ptr im 0,.agg (m.rcs nw),.agg [I d]] s (fun r s'=>∃ nw',r=[.agg ((m.doP d).rcs nw'),B true] ∧ ((m.doP d).over=false → nw'=(m.doP d).news) ∧ MS im ih (m.doP d) s' ∧ MInv (m.doP d) ∧ TG (m.doP d).h):=by
 refine hcf J f17_ J ?_
 simp only [chainOf]
 refine er (hbox (dq3 J) J (lq15 J) (hbox (dq4 J) J (lq1 J) (hal (dq5 J) (qp J (qn (kq4 J) (kq3 J) (eseq (er (pq2 J (qn (kq4 J) (kq2 J) (eblock (er (qp J (qb ?_)))))))))))))
 rintro (_ | _) h1
 refine qp J (qn (kq5 J) (kq2 J) (ecF J (er (qp J (qb ?_)))))
 rintro (_ | _) h2
 refine qp J (qn (kq4 J) (kq2 J) (ecF J (eskip (bqn (sqn (er (hlda J J (lq15 J) (hstl J J J J (Nlb J) (lq15 J) (qp J (qn (kq2 J) (kq1 J) (eret (fqr J ?_))))))))))))
 rotate_left
 refine qp J (qn (kq4 J) (kq2 J) (ecT J (er (hlda J J (lq15 J) (hcall J J J (rgc_c _ m nw hI.hi hI.v hI.rl) ?_)))))
 rintro _ S1 ⟨rfl,k1⟩
 have hM:=hM.kl k1
 refine qp J (hcall J J J (mgc_c _ im ih m hM hI.r30 hI.v) ?_)
 rintro _ S2 ⟨rfl,M2,_⟩
 refine qp J (hstl J J J J (Nlb J) (lq15 J) (qp J (qn (kq2 J) (kq1 J) (eret (bqr (sqr (fqr J ?_)))))))
 rotate_left
 refine qp J (qn (kq5 J) (kq2 J) (ecT J (er (hlda J J (lq15 J) (hcall J J J (rstep_c _ m nw hI tg hnw) ?_)))))
 rintro _ S1 ⟨nw2,rfl,hnw2,tg2,k1⟩
 have hM:=hM.kl k1
 refine pq3 J (hal (dq10 J) (hstl J J J J (Nlb J) (lq15 J) (qp J (qn (kq4 J) (kq2 J) (er (hlda J J (lq15 J) (qp J (hcall J J J (step_c _ im ih m hM hI) ?_))))))))
 rintro _ S2 ⟨rfl,M2,_⟩
 refine pq2 J (hstl J J J J (Nlb J) (lq15 J) (qp J (qn (kq2 J) (kq1 J) (eret (bqr (sqr (fqr J ?_)))))))
 rotate_left
 all_goals
  first
  | (have hd:m.doP d=m.step.1:=by rw [VM.doP,if_pos (by simpa using h1)]
     rw [hd]
     refine ⟨nw2,?_,hnw2,M2,step_inv hI,tg2⟩
     simp [AV.ers,AV.er,VM.rcsV,B,I,ints,SL])
  | (have hd:m.doP d=m.gc:=by rw [VM.doP,if_neg (by simpa using h1),if_pos (by simpa using h2)]
     rw [hd]
     exact ⟨nw,rfl,hnw,M2,hI.gc,tg.gc hI.hi _⟩)
  | (have hd:m.doP d=m:=by rw [VM.doP,if_neg (by simpa using h1),if_neg (by simpa using h2)]
     rw [hd]
     exact ⟨nw,rfl,hnw,hM,hI,tg⟩)
end Go.Sim.W
namespace Go.Sim.W
open Go Go.Sim
def opv (d:Int):AV:=.agg [I d]
def ops (l:List Int):AV:=SL 1 (l.map opv)
theorem MS.ownk {a b:Nat} {m:VM} {s S:Sg} (h:MS a b m s) (k:KL [] s S) {g:Nat} (ho:own [a,b] S g):own [a,b] s g:=by
 have h1:=h.lt
 have h2:=h.hp.1.lt
 rcases own_two.1 ho with h' | h'
 ·exact own_two.2 (.inl (k.own h1 h'))
 exact own_two.2 (.inr (k.own h2 h'))
theorem steps_l (l:List Int) (im ih:Nat) (m:VM) (nw:Int) (i:Nat) (hi:i ≤ l.length) (hs:l.length ≤ 100) {n:Nat} {v:Nat → Bool} {D:List (Nat × List AV)} {S:Sg} {Q:Ex → Fr → Prop} (hM:MS im ih m S) (hI:MInv m) (tg:TG m.h) (hnw:m.over=false → nw=m.news)
 (hX:∀ im' (m':VM) nw' k S',Q (.exit 0) ⟨upd (upd (upd (upd (upd (upd ((fun _=>none)) 70 (some (.val (B false)))) 69 (some (.val (I k)))) 68 (some (.val (I (l.map opv).length)))) 67 (some (.val (ops l)))) 15 (some (.loc 15 0))) 13 (some (.val (.ptr im' 0))),upd ((fun _=>none)) 15 (some (m'.rcs nw')),n,v,D,S'⟩):EX (callL p) (.loop F4_l1) ⟨upd (upd (upd (upd (upd ((fun _=>none)) 69 (some (.val (I i)))) 68 (some (.val (I (l.map opv).length)))) 67 (some (.val (ops l)))) 15 (some (.loc 15 0))) 13 (some (.val (.ptr im 0))),upd ((fun _=>none)) 15 (some (m.rcs nw)),n,v,D,S⟩ Q:=by
 refine eloop (er (qp J (qb ?_)))
 rintro (_ | _) h1
 refine qn (kq6 J) (kq1 J) (eseq (ecF J (eexit (sqx ?_))))
 exact hX _ _ _ _ _
 refine qn (kq6 J) (kq1 J) (eseq (ecT J (eskip (sqn (eseq (eblock (er ?_)))))))
 have hlt:i < l.length:=by simpa using h1
 obtain ⟨d,hd⟩:=get_of_lt hlt
 refine hia (y:=opv d) rfl rfl (by omega) (by simp [hd]) rfl (hlda rfl rfl (lc rfl (ln rfl)) (hal (dc (dc (dc (dc (dc (dc (dc (dc dn rfl) rfl) rfl) rfl) rfl) rfl) rfl) rfl) (hstl rfl rfl rfl rfl (Nlb rfl) (lc rfl (ln rfl)) (qk (kc rfl (kc rfl (kc rfl (kc rfl (kc rfl (kc rfl kn)))))) (kc rfl (kc rfl kn)) (sqn (eseq (eseq (ereg (qp rfl (qp rfl (qp rfl (qb ?_))))))))))))
 rintro (_ | _) h2
 refine qp J (qg J (qp J (qg J (qp J (qg J (qp J (qb ?_)))))))
 rintro (_ | _) h3
 refine qp J (qn (kq7 J) (kq2 J) (ecF J (eskip (sqn (er (qp J (qn (kq6 J) (kq2 J) (er (qp J (hlda J J (lq15 J) (hlda J J (lq1 J) (hcall J J J (do_c _ im ih m nw d hM hI tg hnw) ?_))))))))))))
 rintro _ S5 ⟨nw3,rfl,hnw3,M3,I3,tg3⟩
 refine pq3 J (qb ?_)
 rintro (_ | _) h4
 rotate_left
 refine hstl J J J J (Nlb J) (lq15 J) (qp J (qn (kq6 J) (kq1 J) (er (pq3 J (qg J (qp J (qg J (hlda J J (lq15 J) (qg J (hcall J J J (state_c _ im ih (m.doP d) nw3 M3 I3) ?_))))))))))
 rintro _ S6 ⟨rfl,k6⟩
 have M3:=M3.kl k6
 refine qb ?_
 rintro (_ | _) h5
 refine qg J (pq2 J (qn (kq6 J) (kq1 J) (ecT J (er (qp J (qn (kq1 J) kn (eret (bqr (sqr ?_)))))))))
 exfalso
 first
 | exact absurd (show (!true)=true from by assumption) (by decide)
 | simp_all
 refine qg J (pq2 J (qn (kq6 J) (kq1 J) (ecF J (eskip (bqn (sqn (ereg (hadd J J (i64w (by omega)) (qp J (qk (kq5 J) (kq1 J) ?_))))))))))
 exact steps_l l _ _ _ _ (i + 1) (by omega) hs M3 I3 tg3 hnw3 hX
 refine qp J (qn (kq7 J) (kq2 J) (ecT J (er (pq2 J (qn (kq7 J) (kq2 J) (er (qp J (hcall J J J (mfork_c _ im ih m hM hI.r30 hI.ol40) ?_))))))))
 rintro _ S1 ⟨a,b,rfl,N1,fr⟩
 have ap:=fr_apart (m':=m) hM fr
 have hM:=hM.kl fr.kl
 refine qp J (qn (kq7 J) (kq2 J) (eseq (er (qp J (hpeq J J J J J (qb ?_))))))
 rintro (_ | _) h6
 refine qp J (qg J (qp J (qg J (hlda J J (lq15 J) (qg J (hcall J J J (state_c _ im ih m nw hM hI) ?_))))))
 rintro _ S2 ⟨rfl,k2⟩
 have ap2:∀ g,own [a,b] S2 g → ¬ own [im,ih] S2 g:=fun g h h'=>ap.2.2 g (N1.ownk k2 h) (hM.ownk k2 h')
 have hM:=hM.kl k2
 have N2:=N1.kl k2
 refine qb ?_
 rintro (_ | _) h7
 refine qg J (pq2 J (qn (kq8 J) (kq2 J) (ecT J (er (qp J (qn (kq1 J) kn (eret (sqr (sqr (bqr (sqr ?_)))))))))))
 exfalso
 first
 | exact absurd (show (!true)=true from by assumption) (by decide)
 | simp_all
 refine qg J (pq2 J (qn (kq8 J) (kq2 J) (ecF J (eskip (sqn (er (qp J (hcall J J J (step_c _ im ih m hM hI) ?_))))))))
 rintro _ S3 ⟨rfl,hM,k3⟩
 obtain ⟨N3,ap3⟩:=N2.kx k3 ap.1 ap.2.1 ap2
 refine qn (kq7 J) (kq2 J) (ereg (qp J (hcall J J J (mgc_c _ im ih m.step.1 hM (step_inv hI).r30 (step_inv hI).v) ?_)))
 rintro _ S4 ⟨rfl,_,k4⟩
 obtain ⟨hM,_⟩:=N3.kx k4 ap.1 ap.2.1 ap3
 obtain ⟨im,rfl⟩:∃ x,x=a:=⟨_,rfl⟩
 obtain ⟨ih,rfl⟩:∃ x,x=b:=⟨_,rfl⟩
 refine qn (kq6 J) (kq2 J) (er (qp J (qn (kq6 J) (kq2 J) (er (qp J (hlda J J (lq15 J) (hlda J J (lq1 J) (hcall J J J (do_c _ im ih m nw d hM hI tg hnw) ?_))))))))
 rintro _ S5 ⟨nw3,rfl,hnw3,M3,I3,tg3⟩
 refine pq3 J (qb ?_)
 rintro (_ | _) h8
 rotate_left
 refine hstl J J J J (Nlb J) (lq15 J) (qp J (qn (kq6 J) (kq1 J) (er (pq3 J (qg J (qp J (qg J (hlda J J (lq15 J) (qg J (hcall J J J (state_c _ im ih (m.doP d) nw3 M3 I3) ?_))))))))))
 rintro _ S6 ⟨rfl,k6⟩
 have M3:=M3.kl k6
 refine qb ?_
 rintro (_ | _) h9
 refine qg J (pq2 J (qn (kq6 J) (kq1 J) (ecT J (er (qp J (qn (kq1 J) kn (eret (bqr (sqr ?_)))))))))
 exfalso
 first
 | exact absurd (show (!true)=true from by assumption) (by decide)
 | simp_all
 refine qg J (pq2 J (qn (kq6 J) (kq1 J) (ecF J (eskip (bqn (sqn (ereg (hadd J J (i64w (by omega)) (qp J (qk (kq5 J) (kq1 J) ?_))))))))))
 exact steps_l l _ _ _ _ (i + 1) (by omega) hs M3 I3 tg3 hnw3 hX
 refine qp J (zq4 J (qp J (qn (kq8 J) (kq2 J) (ecT J (er (qp J (qn (kq1 J) kn (eret (sqr (sqr (bqr (sqr ?_))))))))))))
 exfalso
 first
 | exact absurd (show (!true)=true from by assumption) (by decide)
 | simp_all
 refine qp J (zq3 J (qp J (qn (kq7 J) (kq2 J) (ecT J (er (pq2 J (qn (kq7 J) (kq2 J) (er (qp J (hcall J J J (mfork_c _ im ih m hM hI.r30 hI.ol40) ?_))))))))))
 rintro _ S1 ⟨a,b,rfl,N1,fr⟩
 have ap:=fr_apart (m':=m) hM fr
 have hM:=hM.kl fr.kl
 refine qp J (qn (kq7 J) (kq2 J) (eseq (er (qp J (hpeq J J J J J (qb ?_))))))
 rintro (_ | _) h10
 refine qp J (qg J (qp J (qg J (hlda J J (lq15 J) (qg J (hcall J J J (state_c _ im ih m nw hM hI) ?_))))))
 rintro _ S2 ⟨rfl,k2⟩
 have ap2:∀ g,own [a,b] S2 g → ¬ own [im,ih] S2 g:=fun g h h'=>ap.2.2 g (N1.ownk k2 h) (hM.ownk k2 h')
 have hM:=hM.kl k2
 have N2:=N1.kl k2
 refine qb ?_
 rintro (_ | _) h11
 refine qg J (pq2 J (qn (kq8 J) (kq2 J) (ecT J (er (qp J (qn (kq1 J) kn (eret (sqr (sqr (bqr (sqr ?_)))))))))))
 exfalso
 first
 | exact absurd (show (!true)=true from by assumption) (by decide)
 | simp_all
 refine qg J (pq2 J (qn (kq8 J) (kq2 J) (ecF J (eskip (sqn (er (qp J (hcall J J J (step_c _ im ih m hM hI) ?_))))))))
 rintro _ S3 ⟨rfl,hM,k3⟩
 obtain ⟨N3,ap3⟩:=N2.kx k3 ap.1 ap.2.1 ap2
 refine qn (kq7 J) (kq2 J) (ereg (qp J (hcall J J J (mgc_c _ im ih m.step.1 hM (step_inv hI).r30 (step_inv hI).v) ?_)))
 rintro _ S4 ⟨rfl,_,k4⟩
 obtain ⟨hM,_⟩:=N3.kx k4 ap.1 ap.2.1 ap3
 obtain ⟨im,rfl⟩:∃ x,x=a:=⟨_,rfl⟩
 obtain ⟨ih,rfl⟩:∃ x,x=b:=⟨_,rfl⟩
 refine qn (kq6 J) (kq2 J) (er (qp J (qn (kq6 J) (kq2 J) (er (qp J (hlda J J (lq15 J) (hlda J J (lq1 J) (hcall J J J (do_c _ im ih m nw d hM hI tg hnw) ?_))))))))
 rintro _ S5 ⟨nw3,rfl,hnw3,M3,I3,tg3⟩
 refine pq3 J (qb ?_)
 rintro (_ | _) h12
 rotate_left
 refine hstl J J J J (Nlb J) (lq15 J) (qp J (qn (kq6 J) (kq1 J) (er (pq3 J (qg J (qp J (qg J (hlda J J (lq15 J) (qg J (hcall J J J (state_c _ im ih (m.doP d) nw3 M3 I3) ?_))))))))))
 rintro _ S6 ⟨rfl,k6⟩
 have M3:=M3.kl k6
 refine qb ?_
 rintro (_ | _) h13
 refine qg J (pq2 J (qn (kq6 J) (kq1 J) (ecT J (er (qp J (qn (kq1 J) kn (eret (bqr (sqr ?_)))))))))
 exfalso
 first
 | exact absurd (show (!true)=true from by assumption) (by decide)
 | simp_all
 refine qg J (pq2 J (qn (kq6 J) (kq1 J) (ecF J (eskip (bqn (sqn (ereg (hadd J J (i64w (by omega)) (qp J (qk (kq5 J) (kq1 J) ?_))))))))))
 exact steps_l l _ _ _ _ (i + 1) (by omega) hs M3 I3 tg3 hnw3 hX
 refine qp J (zq4 J (qp J (qn (kq8 J) (kq2 J) (ecT J (er (qp J (qn (kq1 J) kn (eret (sqr (sqr (bqr (sqr ?_))))))))))))
 exfalso
 first
 | exact absurd (show (!true)=true from by assumption) (by decide)
 | simp_all
 all_goals
  refine hstl J J J J (Nlb J) (lq15 J) (qp J (qn (kq6 J) (kq1 J) (er (pq3 J (zq4 J (qp J (qn (kq6 J) (kq1 J) (ecT J (er (qp J (qn (kq1 J) kn (eret (bqr ?_)))))))))))))
  refine sqr ?_
  exfalso
  first
  | exact absurd (show (!true)=true from by assumption) (by decide)
  | simp_all
termination_by l.length - i
decreasing_by all_goals omega
theorem VmSteps_c (s:Sg) (hQ:QOK s) (c:Code) (z:CodeSz c) (size period fuel:Int) (inputs:List Int) (hs:inputs.length ≤ 2 ^ 30) (l:List Int) (hl:l.length ≤ 2 ^ 30):HC p N4_ [.agg c.cs,I size,I period,I fuel,ints inputs,ops l] s (fun r s'=>r=[B true]):=by
 refine hcf J f4_ J ?_
 simp only [chainOf]
 refine er (hbox (dq6 J) J (lq3 J) (qp J (qn (kq6 J) (kq1 J) (eseq (er (hlda J J (lq3 J) (pq2 J (hcall J J J (looked_c _ hQ c z fuel inputs) ?_))))))))
 rintro _ _ ⟨rfl,rfl⟩
 refine qb ?_
 rintro (_ | _) h1
 refine pq2 J (zq3 J (pq2 J (zq7 J (qp J (qn (kq7 J) (kq1 J) (ecT J (er (hcall J J J (awake_c _) ?_))))))))
 rintro _ _ ⟨rfl,kA⟩
 refine qp J (qn (kq1 J) kn (eret (sqr (fqr J ?_))))
 rotate_left
 refine pq2 J (qg J (qp J (qg J (qp J (qg J (qp J (qb ?_)))))))
 rintro (_ | _) h2
 refine pq2 J (qg J (hlda J J (lq3 J) (qg J (qp J (qg J (qp J (qg J (qp J (qg J (qp J (qg J (hcall J J J (chk_c _ hQ c z size period fuel inputs hs) ?_))))))))))))
 rintro _ _ ⟨rfl,rfl⟩
 refine qg J (qp J (qb ?_))
 rintro (_ | _) h3
 have hc:chkE c size period fuel inputs=0:=by simpa using h3
 refine qp J (qn (kq7 J) (kq1 J) (ecF J (eskip (sqn (er (hlda J J (lq3 J) (pq4 J (hcall J J J (new_c _ c z size period fuel inputs hs) ?_))))))))
 rintro _ S2 ⟨q,rfl,hK2,q1,q2⟩
 obtain ⟨im,ih,rfl,hM,_⟩:=q1 hc
 refine pq5 J (qn (kq8 J) (kq1 J) (er (hlda J J (lq3 J) (pq4 J (hcall J J J (rnew_c _ c size period fuel inputs (chk_len hc)) ?_)))))
 rintro _ S3 ⟨rfl,hK3⟩
 have hM:=hM.kl hK3
 refine hal (dq14 J) (hstl J J J J (Nlb J) (lq15 J) (qn (kq4 J) (kq1 J) (eseq (er (pq2 J (qb ?_))))))
 rintro (_ | _) h4
 refine qp J (qg J (qp J (qg J (hpeq J J J J J (qb ?_)))))
 rintro (_ | _) h5
 refine pq2 J (qg J (qp J (qg J (hlda J J (lq15 J) (qg J (hcall J J J (state_c _ im ih (newM c size period fuel inputs) 0 hM (newM_inv hc)) ?_))))))
 rintro _ S4 ⟨rfl,k4⟩
 have hM:=hM.kl k4
 refine qb ?_
 rintro (_ | _) h6
 refine qg J (pq2 J (qn (kq4 J) (kq1 J) (ecT J (er (qp J (qn (kq1 J) kn (eret (sqr (fqr J ?_)))))))))
 rotate_left
 refine qg rfl (qp rfl (qp rfl (qk (kc rfl (kc rfl (kc rfl (kc rfl kn)))) (kc rfl kn) (sqn (ecF rfl (eskip (sqn (eseq (eseq (ereg (qp rfl (qp rfl (qp rfl (qk (kc rfl (kc rfl (kc rfl (kc rfl (kc rfl kn))))) (kc rfl kn) (sqn (eblock (steps_l l im ih (newM c size period fuel inputs) 0 0 (by omega) (by have h2c:=h2;simp at h2c;omega) hM (newM_inv hc) (fun o ho=>by cases ho) (fun _=>rfl) ?_)))))))))))))))))
 intro im' m' nw' k S'
 refine bqx (sqn (er (hcall J J J (awake_c _) ?_)))
 rintro _ _ ⟨rfl,kA⟩
 refine qp J (qn (kq1 J) kn (eret (fqr J ?_)))
 rotate_left
 refine pq2 J (zq4 J (qp J (qn (kq4 J) (kq1 J) (ecT J (er (qp J (qn (kq1 J) kn (eret (sqr (fqr J ?_))))))))))
 rotate_left
 refine qp J (zq2 J (pq2 J (zq4 J (qp J (qn (kq4 J) (kq1 J) (ecT J (er (qp J (qn (kq1 J) kn (eret (sqr (fqr J ?_))))))))))))
 rotate_left
 refine qp J (qn (kq7 J) (kq1 J) (ecT J (er (hcall J J J (awake_c _) ?_))))
 rintro _ _ ⟨rfl,kA⟩
 refine qp J (qn (kq1 J) kn (eret (sqr (fqr J ?_))))
 rotate_left
 refine pq2 J (zq7 J (qp J (qn (kq7 J) (kq1 J) (ecT J (er (hcall J J J (awake_c _) ?_))))))
 rintro _ _ ⟨rfl,kA⟩
 refine qp J (qn (kq1 J) kn (eret (sqr (fqr J ?_))))
 rotate_left
 all_goals
  first
  | exact rfl
  | (exfalso
     first
     | exact absurd (show (!true)=true from by assumption) (by decide)
     | simp_all)
end Go.Sim.W
