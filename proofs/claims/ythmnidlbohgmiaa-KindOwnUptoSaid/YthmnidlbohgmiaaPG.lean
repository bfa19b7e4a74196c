/-
  A part of a proof: see the last text of this claim.
-/
import Derived.Test.YthmnidlbohgmiaaPF
set_option linter.unusedVariables false
set_option linter.unusedSimpArgs false
namespace Go.Sim.Kd
open Go Go.Sim
structure KV (c:Core) (k i0 i1:Nat) (X A:Int → Bool) (left:Int) (S:Sg):Prop where
 hk:S.ob k=some (.row [SL 3 (c.decls.map Decl.enc),SL 8 (c.funs.map CFun.enc),I left])
 ps:PS i0 i1 X A S
 kl:k < S.nx
 k0:k ≠ i0
 k1:k ≠ i1
abbrev K3 (k i0 i1:Nat):Nat → Prop:=fun j=>j=k ∨ j=i0 ∨ j=i1
def VPost (c:Core) (k i0 i1:Nat) (X A:Int → Bool) (left:Int) (s:Sg) (P:Prop) (nn:Nat) (r:List AV) (s':Sg):Prop :=
 ∃ b left',r=[B b] ∧ KV c k i0 i1 X A left' s' ∧ Chg (K3 k i0 i1) s s' ∧ -1 ≤ left' ∧ left' ≤ left ∧ (b=true ↔ P) ∧ (b=true → left'=left - nn)
def VC (c:Core) (a:Node):Prop:=∀ (s:Sg) (k i0 i1:Nat) (X A:Int → Bool) (left deep:Int),KV c k i0 i1 X A left s → 0 ≤ left → left ≤ 2 ^ 40 → 0 ≤ deep → deep ≤ 4001 →
 HC p N94_ [.ptr k 0,.agg [.map i0,.map i1],.agg a.cs,I deep] s (fun r s'=>VPost c k i0 i1 X A left s (vN c.decls c.funs a X A=true ∧ (nNodes a:Int) ≤ left ∧ deep + nDepth a ≤ 4001) (nNodes a) r s')
def SortsP (c:Core) (l:List Node) (want:List Int) (X A:Int → Bool) (left deep:Int):Prop:=vNs c.decls c.funs l want X A=true ∧ (szL nNodes l:Int) ≤ left ∧ deep + 1 + mxL nDepth l ≤ 4001
theorem sorts_nil {c:Core} {X A:Int → Bool} {left deep:Int} (h0:0 ≤ left) (h1:deep ≤ 4000):SortsP c [] [] X A left deep:=⟨by rw [vNs],by simp [szL];omega,by simp [mxL];omega⟩
theorem sorts_cons {c:Core} {a:Node} {l:List Node} {w:Int} {ws:List Int} {X A:Int → Bool} {left deep:Int} (hs:sortOf a.op=w) (hv:vN c.decls c.funs a X A=true ∧ (nNodes a:Int) ≤ left ∧ deep + 1 + nDepth a ≤ 4001) :
 SortsP c (a :: l) (w :: ws) X A left deep ↔ SortsP c l ws X A (left - nNodes a) deep:=by
 obtain ⟨h1,h2,h3⟩:=hv
 simp only [SortsP,vNs,szL,mxL,hs,h1,decide_true,Bool.true_and]
 constructor
 ·rintro ⟨a1,a2,a3⟩;exact ⟨a1,by omega,by omega⟩
 ·rintro ⟨a1,a2,a3⟩;exact ⟨a1,by omega,by omega⟩
theorem sorts_no {c:Core} {a:Node} {l:List Node} {w:Int} {ws:List Int} {X A:Int → Bool} {left deep:Int} (h:SortsP c (a :: l) (w :: ws) X A left deep):sortOf a.op=w ∧ vN c.decls c.funs a X A=true ∧ (nNodes a:Int) ≤ left ∧ deep + 1 + nDepth a ≤ 4001:=by
 obtain ⟨a1,a2,a3⟩:=h
 simp only [vNs,Bool.and_eq_true,decide_eq_true_eq] at a1
 simp only [szL,mxL] at a2 a3
 exact ⟨a1.1.1,a1.1.2,by omega,by omega⟩
theorem sorts_len {c:Core} {l:List Node} {ws:List Int} {X A:Int → Bool} {left deep:Int} (h:SortsP c l ws X A left deep):l.length=ws.length:=vNs_len h.1
def xtorAt (ds:List Decl) (t n:Int) (co:Bool):Option Xtor:=match declAt ds t with
 | some d=>if d.codata=co ∧ 0 ≤ n then d.xtors[n.toNat]? else none
 | none=>none
theorem xtor_c (s:Sg) (c:Core) (k:Nat) (left t n:Int) (co:Bool) (hdl:c.decls.length ≤ 2 ^ 40) (hk:s.ob k=some (.row [SL 3 (c.decls.map Decl.enc),SL 8 (c.funs.map CFun.enc),I left])):HC p N146_ [.ptr k 0,I t,I n,B co] s (fun r s'=>s'=s ∧ ∃ x ok,r=[Xtor.enc x,B ok] ∧ xtorAt c.decls t n co=if ok then some x else none):=by
 refine hcf rfl f146_ rfl ?_
 simp only [chainOf]
 refine eseq (ereg (hal (dc (dc (dc (dc dn rfl) rfl) rfl) rfl) (qp rfl (qk (kc rfl (kc rfl (kc rfl (kc rfl (kc rfl kn))))) (kc rfl kn) (sqn (eseq (eseq (ereg (qp rfl (qp rfl (qb ?_)))))))))))
 rintro (_ | _) h1
 ·refine qp rfl (qg rfl (qp rfl (qg rfl (qp rfl (qg rfl (qp rfl (qg rfl (qp rfl (qg rfl (hldo rfl hk rfl ?_))))))))))
  refine qg rfl (qp rfl (qg rfl (qp rfl (qb ?_))))
  rintro (_ | _) h2
  ·refine qp rfl (qp rfl (qg rfl (qp rfl (qg rfl (qp rfl (qg rfl (qp rfl (qg rfl (hldo rfl hk rfl ?_)))))))))
   refine qg rfl (qp rfl (qg rfl (hsub rfl rfl (i64w (by simp at h1 h2;omega)) (qg rfl ?_))))
   have ht1:1 ≤ t:=by simp at h1;omega
   have ht2:t ≤ c.decls.length:=by simp at h2;omega
   obtain ⟨d,hd⟩:=get_of_lt (l:=c.decls) (i:=(t - 1).toNat) (by omega)
   have hda:declAt c.decls t=some d:=by rw [declAt,if_pos ht1];exact hd
   refine hia (y:=Decl.enc d) rfl rfl (by omega) (by rw [List.getElem?_map,hd];rfl) rfl ?_
   refine qg rfl (qp rfl (qg rfl (qp rfl (qg rfl (qp rfl (qg rfl (qp rfl (qb ?_))))))))
   rintro (_ | _) h3
   ·refine qp rfl (qp rfl (qg rfl (qp rfl (qg rfl (qp rfl (qb ?_))))))
    rintro (_ | _) h4
    ·refine qp rfl (qp rfl (qg rfl (qp rfl (qg rfl (qp rfl (qg rfl (qp rfl (qg rfl (qp rfl (qg rfl (hldo rfl hk rfl ?_)))))))))))
     refine qg rfl (qp rfl (qg rfl (hsub rfl rfl (i64w (by omega)) (qg rfl ?_))))
     refine hia (y:=Decl.enc d) rfl rfl (by omega) (by rw [List.getElem?_map,hd];rfl) rfl ?_
     refine qg rfl (qp rfl (qg rfl (qp rfl (qg rfl (qp rfl (qg rfl (qp rfl (qb ?_))))))))
     rintro (_ | _) h5
     ·refine qp rfl (qk (kc rfl (kc rfl (kc rfl (kc rfl (kc rfl kn))))) (kc rfl kn) (sqn (ecF rfl (eskip (sqn (eseq (ereg (qp rfl (qp rfl (qp rfl (hldo rfl hk rfl ?_)))))))))))
      refine qp rfl (hsub rfl rfl (i64w (by omega)) ?_)
      refine hia (y:=Decl.enc d) rfl rfl (by omega) (by rw [List.getElem?_map,hd];rfl) rfl ?_
      refine qp rfl (qp rfl (qp rfl ?_))
      obtain ⟨x,hx⟩:=get_of_lt (l:=d.xtors) (i:=n.toNat) (by simp at *;omega)
      refine hia (y:=Xtor.enc x) rfl rfl (by simp at *;omega) (by rw [List.getElem?_map,hx];rfl) rfl ?_
      refine hlda rfl rfl (lc rfl (lc rfl (ln rfl))) (hstl rfl rfl rfl rfl (Nat.le_of_ble_eq_true rfl) (lc rfl (lc rfl (ln rfl))) (qp rfl (qk (kc rfl (kc rfl kn)) (kc rfl kn) (sqn (eret (fqr rfl ?_))))))
      first
      | exact ⟨rfl,x,true,rfl,by rw [xtorAt,hda];simp only [];rw [if_pos ⟨by simpa using h3,by simp at h4;omega⟩];exact hx⟩
      | exact ⟨rfl,⟨⟨#[]⟩,[]⟩,false,rfl,by
         rw [xtorAt,hda]
         simp only []
         rcases Decidable.em (d.codata=co ∧ 0 ≤ n) with q | q
         ·rw [if_pos q]
          first
          | (exfalso;have q1:=q.1;have q2:=q.2;simp at *;omega)
          | (exfalso;have q1:=q.1;simp [q1] at h3;done)
          | (rw [List.getElem?_eq_none (by simp at *;omega)];rfl)
         ·rw [if_neg q];rfl⟩
      | exact ⟨rfl,⟨⟨#[]⟩,[]⟩,false,rfl,by rw [xtorAt,declAt_none (by simp at *;omega)];rfl⟩
     ·refine qp rfl (qk (kc rfl (kc rfl (kc rfl (kc rfl (kc rfl kn))))) (kc rfl kn) (sqn (ecT rfl (eseq (ereg (hbuild rfl rfl (lc rfl (lc rfl (ln rfl))) (hstl rfl rfl rfl rfl (Nat.le_of_ble_eq_true rfl) (lc rfl (lc rfl (ln rfl))) (qp rfl (qk (kc rfl (kc rfl kn)) (kc rfl kn) (sqn (eret (sqr (fqr rfl ?_)))))))))))))
      first
      | exact ⟨rfl,x,true,rfl,by rw [xtorAt,hda];simp only [];rw [if_pos ⟨by simpa using h3,by simp at h4;omega⟩];exact hx⟩
      | exact ⟨rfl,⟨⟨#[]⟩,[]⟩,false,rfl,by
         rw [xtorAt,hda]
         simp only []
         rcases Decidable.em (d.codata=co ∧ 0 ≤ n) with q | q
         ·rw [if_pos q]
          first
          | (exfalso;have q1:=q.1;have q2:=q.2;simp at *;omega)
          | (exfalso;have q1:=q.1;simp [q1] at h3;done)
          | (rw [List.getElem?_eq_none (by simp at *;omega)];rfl)
         ·rw [if_neg q];rfl⟩
      | exact ⟨rfl,⟨⟨#[]⟩,[]⟩,false,rfl,by rw [xtorAt,declAt_none (by simp at *;omega)];rfl⟩
    ·refine qp rfl (qp rfl (qs rfl rfl (by decide) (qs rfl rfl (by decide) (qs rfl rfl (by decide) (qs rfl rfl (by decide) (qs rfl rfl (by decide) (qs rfl rfl (by decide) (qs rfl rfl (by decide) (qs rfl rfl (by decide) (qs rfl rfl (by decide) (qs rfl rfl (by decide) (qs rfl rfl (by decide) (qs rfl rfl (by decide) (qp rfl (qk (kc rfl (kc rfl (kc rfl (kc rfl (kc rfl kn))))) (kc rfl kn) (sqn (ecT rfl (eseq (ereg (hbuild rfl rfl (lc rfl (lc rfl (ln rfl))) (hstl rfl rfl rfl rfl (Nat.le_of_ble_eq_true rfl) (lc rfl (lc rfl (ln rfl))) (qp rfl (qk (kc rfl (kc rfl kn)) (kc rfl kn) ?_)))))))))))))))))))))))
     refine sqn (eret (sqr (fqr rfl ?_)))
     first
     | exact ⟨rfl,x,true,rfl,by rw [xtorAt,hda];simp only [];rw [if_pos ⟨by simpa using h3,by simp at h4;omega⟩];exact hx⟩
     | exact ⟨rfl,⟨⟨#[]⟩,[]⟩,false,rfl,by
        rw [xtorAt,hda]
        simp only []
        rcases Decidable.em (d.codata=co ∧ 0 ≤ n) with q | q
        ·rw [if_pos q]
         first
         | (exfalso;have q1:=q.1;have q2:=q.2;simp at *;omega)
         | (exfalso;have q1:=q.1;simp [q1] at h3;done)
         | (rw [List.getElem?_eq_none (by simp at *;omega)];rfl)
        ·rw [if_neg q];rfl⟩
     | exact ⟨rfl,⟨⟨#[]⟩,[]⟩,false,rfl,by rw [xtorAt,declAt_none (by simp at *;omega)];rfl⟩
   ·refine qp rfl (qp rfl (qs rfl rfl (by decide) (qs rfl rfl (by decide) (qp rfl (qp rfl (qs rfl rfl (by decide) (qs rfl rfl (by decide) (qs rfl rfl (by decide) (qs rfl rfl (by decide) (qs rfl rfl (by decide) (qs rfl rfl (by decide) (qs rfl rfl (by decide) (qs rfl rfl (by decide) (qs rfl rfl (by decide) (qs rfl rfl (by decide) (qs rfl rfl (by decide) (qs rfl rfl (by decide) (qp rfl (qk (kc rfl (kc rfl (kc rfl (kc rfl (kc rfl kn))))) (kc rfl kn) (sqn (ecT rfl (eseq (ereg ?_)))))))))))))))))))))))
    refine hbuild rfl rfl (lc rfl (lc rfl (ln rfl))) (hstl rfl rfl rfl rfl (Nat.le_of_ble_eq_true rfl) (lc rfl (lc rfl (ln rfl))) (qp rfl (qk (kc rfl (kc rfl kn)) (kc rfl kn) (sqn (eret (sqr (fqr rfl ?_)))))))
    first
    | exact ⟨rfl,x,true,rfl,by rw [xtorAt,hda];simp only [];rw [if_pos ⟨by simpa using h3,by simp at h4;omega⟩];exact hx⟩
    | exact ⟨rfl,⟨⟨#[]⟩,[]⟩,false,rfl,by
       rw [xtorAt,hda]
       simp only []
       rcases Decidable.em (d.codata=co ∧ 0 ≤ n) with q | q
       ·rw [if_pos q]
        first
        | (exfalso;have q1:=q.1;have q2:=q.2;simp at *;omega)
        | (exfalso;have q1:=q.1;simp [q1] at h3;done)
        | (rw [List.getElem?_eq_none (by simp at *;omega)];rfl)
       ·rw [if_neg q];rfl⟩
    | exact ⟨rfl,⟨⟨#[]⟩,[]⟩,false,rfl,by rw [xtorAt,declAt_none (by simp at *;omega)];rfl⟩
  ·refine qp rfl (qp rfl (qs rfl rfl (by decide) (qs rfl rfl (by decide) (qs rfl rfl (by decide) (qs rfl rfl (by decide) (qs rfl rfl (by decide) (qs rfl rfl (by decide) (qs rfl rfl (by decide) (qs rfl rfl (by decide) (qs rfl rfl (by decide) (qs rfl rfl (by decide) (qs rfl rfl (by decide) (qp rfl (qp rfl (qs rfl rfl (by decide) (qs rfl rfl (by decide) (qp rfl (qp rfl (qs rfl rfl (by decide) (qs rfl rfl (by decide) (qs rfl rfl (by decide) (qs rfl rfl (by decide) (qs rfl rfl (by decide) ?_)))))))))))))))))))))))
   refine qs rfl rfl (by decide) (qs rfl rfl (by decide) (qs rfl rfl (by decide) (qs rfl rfl (by decide) (qs rfl rfl (by decide) (qs rfl rfl (by decide) (qs rfl rfl (by decide) (qp rfl (qk (kc rfl (kc rfl (kc rfl (kc rfl (kc rfl kn))))) (kc rfl kn) (sqn (ecT rfl (eseq (ereg (hbuild rfl rfl (lc rfl (lc rfl (ln rfl))) (hstl rfl rfl rfl rfl (Nat.le_of_ble_eq_true rfl) (lc rfl (lc rfl (ln rfl))) (qp rfl (qk (kc rfl (kc rfl kn)) (kc rfl kn) (sqn (eret (sqr (fqr rfl ?_))))))))))))))))))))
   first
   | exact ⟨rfl,x,true,rfl,by rw [xtorAt,hda];simp only [];rw [if_pos ⟨by simpa using h3,by simp at h4;omega⟩];exact hx⟩
   | exact ⟨rfl,⟨⟨#[]⟩,[]⟩,false,rfl,by
      rw [xtorAt,hda]
      simp only []
      rcases Decidable.em (d.codata=co ∧ 0 ≤ n) with q | q
      ·rw [if_pos q]
       first
       | (exfalso;have q1:=q.1;have q2:=q.2;simp at *;omega)
       | (exfalso;have q1:=q.1;simp [q1] at h3;done)
       | (rw [List.getElem?_eq_none (by simp at *;omega)];rfl)
      ·rw [if_neg q];rfl⟩
   | exact ⟨rfl,⟨⟨#[]⟩,[]⟩,false,rfl,by rw [xtorAt,declAt_none (by simp at *;omega)];rfl⟩
 ·refine qp rfl (qs rfl rfl (by decide) (qs rfl rfl (by decide) (qs rfl rfl (by decide) (qs rfl rfl (by decide) (qs rfl rfl (by decide) (qs rfl rfl (by decide) (qs rfl rfl (by decide) (qp rfl (qp rfl (qs rfl rfl (by decide) (qs rfl rfl (by decide) (qs rfl rfl (by decide) (qs rfl rfl (by decide) (qs rfl rfl (by decide) (qs rfl rfl (by decide) (qs rfl rfl (by decide) (qs rfl rfl (by decide) (qs rfl rfl (by decide) (qs rfl rfl (by decide) (qs rfl rfl (by decide) (qp rfl (qp rfl (qs rfl rfl (by decide) ?_)))))))))))))))))))))))
  refine qs rfl rfl (by decide) (qp rfl (qp rfl (qs rfl rfl (by decide) (qs rfl rfl (by decide) (qs rfl rfl (by decide) (qs rfl rfl (by decide) (qs rfl rfl (by decide) (qs rfl rfl (by decide) (qs rfl rfl (by decide) (qs rfl rfl (by decide) (qs rfl rfl (by decide) (qs rfl rfl (by decide) (qs rfl rfl (by decide) (qs rfl rfl (by decide) (qp rfl (qk (kc rfl (kc rfl (kc rfl (kc rfl (kc rfl kn))))) (kc rfl kn) (sqn (ecT rfl (eseq (ereg (hbuild rfl rfl (lc rfl (lc rfl (ln rfl))) (hstl rfl rfl rfl rfl (Nat.le_of_ble_eq_true rfl) (lc rfl (lc rfl (ln rfl))) (qp rfl ?_)))))))))))))))))))))))
  refine qk (kc rfl (kc rfl kn)) (kc rfl kn) (sqn (eret (sqr (fqr rfl ?_))))
  first
  | exact ⟨rfl,x,true,rfl,by rw [xtorAt,hda];simp only [];rw [if_pos ⟨by simpa using h3,by simp at h4;omega⟩];exact hx⟩
  | exact ⟨rfl,⟨⟨#[]⟩,[]⟩,false,rfl,by
     rw [xtorAt,hda]
     simp only []
     rcases Decidable.em (d.codata=co ∧ 0 ≤ n) with q | q
     ·rw [if_pos q]
      first
      | (exfalso;have q1:=q.1;have q2:=q.2;simp at *;omega)
      | (exfalso;have q1:=q.1;simp [q1] at h3;done)
      | (rw [List.getElem?_eq_none (by simp at *;omega)];rfl)
     ·rw [if_neg q];rfl⟩
  | exact ⟨rfl,⟨⟨#[]⟩,[]⟩,false,rfl,by rw [xtorAt,declAt_none (by simp at *;omega)];rfl⟩
theorem sorts_l {k i0 i1:Nat} (c:Core) (l:List Node) (want:List Int) (X A:Int → Bool) (hlen:l.length=want.length) (deep:Int) (hdeep:0 ≤ deep ∧ deep ≤ 4000) (H:∀ b ∈ l,VC c b) (i:Nat) (hi:i ≤ l.length) (hs:l.length ≤ 2 ^ 40) {n:Nat} {v:Nat → Bool} {D:List (Nat × List AV)} {S:Sg} {Q:Ex → Fr → Prop}
 (left:Int) (h0:0 ≤ left ∧ left ≤ 2 ^ 40) (hK:KV c k i0 i1 X A left S)
 (hX:∀ j S' left',KV c k i0 i1 X A left' S' → Chg (K3 k i0 i1) S S' → SortsP c (l.drop i) (want.drop i) X A left deep → left'=left - szL nNodes (l.drop i) → 0 ≤ left' → Q (.exit 0) ⟨upd (upd (upd (upd (upd (upd (upd (upd ((fun _=>none)) 21 (some (.val (B false)))) 20 (some (.val (I j)))) 19 (some (.val (I (l.map Node.enc).length)))) 18 (some (.val (.slice .none 5 (l.map Node.enc))))) 6 (some (.loc 6 0))) 4 (some (.val (ints want)))) 3 (some (.val (I deep)))) 0 (some (.val (.ptr k 0))),upd ((fun _=>none)) 6 (some ([.map i0,.map i1])),n,v,D,S'⟩)
 (hR:∀ S' left',KV c k i0 i1 X A left' S' → Chg (K3 k i0 i1) S S' → -1 ≤ left' → left' ≤ left → ¬ SortsP c (l.drop i) (want.drop i) X A left deep → Q .ret ⟨upd ((fun _=>none)) 10 (some (.val (B false))),(fun _=>none),n,v,D,S'⟩):EX (callL p) (.loop F148_l1) ⟨upd (upd (upd (upd (upd (upd (upd ((fun _=>none)) 20 (some (.val (I i)))) 19 (some (.val (I (l.map Node.enc).length)))) 18 (some (.val (.slice .none 5 (l.map Node.enc))))) 6 (some (.loc 6 0))) 4 (some (.val (ints want)))) 3 (some (.val (I deep)))) 0 (some (.val (.ptr k 0))),upd ((fun _=>none)) 6 (some ([.map i0,.map i1])),n,v,D,S⟩ Q:=by
 refine eloop (eseq (ereg (qp rfl (qb ?_))))
 rintro (_ | _) h1
 ·refine qk (kc rfl (kc rfl (kc rfl (kc rfl (kc rfl (kc rfl (kc rfl (kc rfl kn)))))))) (kc rfl kn) (sqn (eseq (ecF rfl (eexit (sqx ?_)))))
  exact hX _ _ left hK (Chg.refl _) (by rw [List.drop_eq_nil_of_le (by simp at h1 ⊢;omega),List.drop_eq_nil_of_le (by simp at h1 ⊢;omega)];exact sorts_nil h0.1 hdeep.2) (by rw [List.drop_eq_nil_of_le (by simp at h1 ⊢;omega)];simp [szL]) h0.1
 ·refine qk (kc rfl (kc rfl (kc rfl (kc rfl (kc rfl (kc rfl (kc rfl (kc rfl kn)))))))) (kc rfl kn) (sqn (eseq (ecT rfl (eskip (sqn (eseq (eblock (eseq (ereg (qp rfl ?_))))))))))
  have hlt:i < l.length:=by simpa using h1
  obtain ⟨a,ha⟩:=get_of_lt hlt
  have hd:=drop_cons ha
  refine hia (y:=.agg a.cs) rfl rfl (by omega) (by simp [ha,Node.enc_eq,Br.enc_eq,CFun.enc_eq]) rfl (hlda rfl rfl (lc rfl (lc rfl (lc rfl (lc rfl (lc rfl (ln rfl)))))) (hal (dc (dc (dc (dc (dc (dc (dc (dc (dc (dc (dc dn rfl) rfl) rfl) rfl) rfl) rfl) rfl) rfl) rfl) rfl) rfl) (qp rfl (hstl rfl rfl rfl rfl (Nat.le_of_ble_eq_true rfl) (lc rfl (lc rfl (lc rfl (lc rfl (lc rfl (ln rfl)))))) (qk (kc rfl (kc rfl (kc rfl (kc rfl (kc rfl (kc rfl (kc rfl (kc rfl (kc rfl kn))))))))) (kc rfl (kc rfl kn)) (sqn (eseq (ereg (qp rfl (qp rfl (hcall rfl rfl rfl (Sort_c _ _) ?_)))))))))))
  rintro _ _ ⟨rfl,hq⟩
  obtain rfl:=hq.symm
  refine qp rfl (qp rfl ?_)
  obtain ⟨w,hw⟩:=get_of_lt (l:=want) (i:=i) (by omega)
  have hw2:=drop_cons hw
  refine hia (y:=I w) rfl rfl (by omega) (by simp [hw]) rfl (qp rfl (qp rfl (qb ?_)))
  rintro (_ | _) h2
  ·refine qp rfl (qg rfl (qp rfl (qg rfl (hlda rfl rfl (lc rfl (lc rfl (ln rfl))) (qg rfl (hlda rfl rfl (lc rfl (lc rfl (lc rfl (lc rfl (lc rfl (ln rfl)))))) (qg rfl (qp rfl (qg rfl (hadd rfl rfl (i64w (by omega)) (qg rfl (hcall rfl rfl rfl (H a (List.mem_of_getElem? ha) _ k i0 i1 X A left (deep + 1) hK h0.1 h0.2 (by omega) (by omega)) ?_))))))))))))
   rintro _ S' ⟨b,left',rfl,hK',hc',q3,q4,q5,q6⟩
   refine qb ?_
   rintro (_ | _) h3
   ·refine qg rfl (qp rfl (qp rfl (qk (kc rfl (kc rfl (kc rfl (kc rfl (kc rfl (kc rfl (kc rfl (kc rfl kn)))))))) (kc rfl kn) (sqn (ecT rfl (eseq (ereg (qp rfl (qk (kc rfl kn) kn (sqn (eret (bqr (sqr ?_)))))))))))))
    first
    | (have f1:(!decide (sortOf a.op=w))=true:=by assumption
       refine hR _ left hK (Chg.refl _) (by omega) (by omega) fun h=>?_
       rw [hd,hw2] at h
       have:=(sorts_no h).1
       simp [this] at f1)
    | (refine hR _ left' hK' hc' q3 q4 fun h=>?_
       rw [hd,hw2] at h
       have:=q5.2 (sorts_no h).2
       simp_all)
   ·refine qg rfl (qp rfl (qp rfl (qk (kc rfl (kc rfl (kc rfl (kc rfl (kc rfl (kc rfl (kc rfl (kc rfl kn)))))))) (kc rfl kn) (sqn (ecF rfl (eskip (bqn (sqn (ereg (hadd rfl rfl (i64w (by omega)) (qp rfl (qk (kc rfl (kc rfl (kc rfl (kc rfl (kc rfl (kc rfl (kc rfl kn))))))) (kc rfl kn) ?_))))))))))))
    have f1:(!decide (sortOf a.op=w))=false:=by assumption
    have f1':sortOf a.op=w:=by simpa using f1
    have f2:b=true:=by assumption
    subst f2
    have hv:=q5.1 rfl
    have hl':=q6 rfl
    have hz1:0 ≤ left':=by have:=hv.2.1;omega
    exact sorts_l c l want X A hlen deep hdeep H (i + 1) (by omega) hs left' ⟨hz1,by omega⟩ hK'
     (fun j S2 l2 h c2 e1 e2 e3=>hX j S2 l2 h (hc'.trans c2) (by rw [hd,hw2];exact (sorts_cons f1' hv).2 (hl' ▸ e1)) (by rw [e2,hl',hd];simp only [szL];omega) e3)
     (fun S2 l2 h c2 e1 e2 e3=>hR S2 l2 h (hc'.trans c2) e1 (by omega) (by rw [hd,hw2];exact fun q=>e3 (hl' ▸ (sorts_cons f1' hv).1 q)))
  ·refine qp rfl (qs rfl rfl (by decide) (qs rfl rfl (by decide) (qs rfl rfl (by decide) (qs rfl rfl (by decide) (qs rfl rfl (by decide) (qs rfl rfl (by decide) (qs rfl rfl (by decide) (qp rfl (qk (kc rfl (kc rfl (kc rfl (kc rfl (kc rfl (kc rfl (kc rfl (kc rfl kn)))))))) (kc rfl kn) (sqn (ecT rfl (eseq (ereg (qp rfl (qk (kc rfl kn) kn (sqn (eret (bqr (sqr ?_)))))))))))))))))))
   first
   | (have f1:(!decide (sortOf a.op=w))=true:=by assumption
      refine hR _ left hK (Chg.refl _) (by omega) (by omega) fun h=>?_
      rw [hd,hw2] at h
      have:=(sorts_no h).1
      simp [this] at f1)
   | (refine hR _ left' hK' hc' q3 q4 fun h=>?_
      rw [hd,hw2] at h
      have:=q5.2 (sorts_no h).2
      simp_all)
termination_by l.length - i
decreasing_by all_goals omega
theorem sorts_c (s:Sg) (c:Core) (k i0 i1:Nat) (X A:Int → Bool) (left deep:Int) (l:List Node) (want:List Int) (hz:l.length ≤ 2 ^ 40) (hdeep:0 ≤ deep ∧ deep ≤ 4000) (h0:0 ≤ left ∧ left ≤ 2 ^ 40) (hK:KV c k i0 i1 X A left s) (H:∀ b ∈ l,VC c b):HC p N148_ [.ptr k 0,.agg [.map i0,.map i1],SL 5 (l.map Node.enc),I deep,ints want] s (fun r s'=>VPost c k i0 i1 X A left s (SortsP c l want X A left deep) (szL nNodes l) r s'):=by
 refine hcf rfl f148_ rfl ?_
 simp only [chainOf]
 refine eseq (ereg (hbox (dc (dc (dc (dc (dc dn rfl) rfl) rfl) rfl) rfl) rfl (lc rfl (lc rfl (ln rfl))) (qp rfl (qk (kc rfl (kc rfl (kc rfl (kc rfl (kc rfl kn))))) (kc rfl kn) (sqn (eseq (eseq (ereg (qp rfl (qp rfl (qp rfl (qp rfl (qp rfl (qb ?_))))))))))))))
 rintro (_ | _) h1
 ·refine qk (kc rfl (kc rfl (kc rfl (kc rfl (kc rfl (kc rfl kn)))))) (kc rfl kn) (sqn (ecF rfl (eskip (sqn (eseq (eseq (ereg (qp rfl (qp rfl (qp rfl (qk (kc rfl (kc rfl (kc rfl (kc rfl (kc rfl (kc rfl (kc rfl kn))))))) (kc rfl kn) (sqn (eblock ?_)))))))))))))
  refine sorts_l c l want X A (by simp at h1;omega) deep hdeep H 0 (by omega) hz left h0 hK ?_ ?_
  ·intro j S1 l1 hK1 hc1 e1 e2 e3
   refine bqx (sqn (eseq (ereg (qp rfl (qk (kc rfl kn) kn (sqn (eret (fqr rfl ?_))))))))
   first
   | (refine ⟨false,left,rfl,hK,Chg.refl _,by omega,by omega,⟨fun h=>by simp at h,fun h=>?_⟩,fun h=>by simp at h⟩
      have:=sorts_len h
      simp at h1
      omega)
   | exact ⟨true,l1,rfl,hK1,hc1,by omega,by omega,⟨fun _=>by simpa using e1,fun _=>rfl⟩,fun _=>by simpa using e2⟩
   | exact ⟨false,l1,rfl,hK1,hc1,e1,e2,⟨fun h=>by simp at h,fun h=>absurd (by simpa using h) e3⟩,fun h=>by simp at h⟩
  ·intro S1 l1 hK1 hc1 e1 e2 e3
   refine bqr (sqr (fqr rfl ?_))
   first
   | (refine ⟨false,left,rfl,hK,Chg.refl _,by omega,by omega,⟨fun h=>by simp at h,fun h=>?_⟩,fun h=>by simp at h⟩
      have:=sorts_len h
      simp at h1
      omega)
   | exact ⟨true,l1,rfl,hK1,hc1,by omega,by omega,⟨fun _=>by simpa using e1,fun _=>rfl⟩,fun _=>by simpa using e2⟩
   | exact ⟨false,l1,rfl,hK1,hc1,e1,e2,⟨fun h=>by simp at h,fun h=>absurd (by simpa using h) e3⟩,fun h=>by simp at h⟩
 ·refine qk (kc rfl (kc rfl (kc rfl (kc rfl (kc rfl (kc rfl kn)))))) (kc rfl kn) (sqn (ecT rfl (eseq (ereg (qp rfl (qk (kc rfl kn) kn (sqn (eret (sqr (fqr rfl ?_))))))))))
  first
  | (refine ⟨false,left,rfl,hK,Chg.refl _,by omega,by omega,⟨fun h=>by simp at h,fun h=>?_⟩,fun h=>by simp at h⟩
     have:=sorts_len h
     simp at h1
     omega)
  | exact ⟨true,l1,rfl,hK1,hc1,by omega,by omega,⟨fun _=>by simpa using e1,fun _=>rfl⟩,fun _=>by simpa using e2⟩
  | exact ⟨false,l1,rfl,hK1,hc1,e1,e2,⟨fun h=>by simp at h,fun h=>absurd (by simpa using h) e3⟩,fun h=>by simp at h⟩
theorem take_map2 {α:Type} {g:α → Int} {l:List α} {i:Nat} {a:α} (ha:l[i]?=some a):((l.take i).map g).map I ++ [I (g a)]=((l.take (i + 1)).map g).map I:=by simp [List.take_add_one,ha]
theorem cargs_l {x0 x2 x4:AV} {cs6:List AV} (l:List Arg) (o:Own) (i:Nat) (hi:i ≤ l.length) (hs:l.length ≤ 2 ^ 40) {n:Nat} {v:Nat → Bool} {D:List (Nat × List AV)} {S:Sg} {Q:Ex → Fr → Prop}
 (hlv:Can o v) (hX:∀ j n' v' o',Q (.exit 0) ⟨upd (upd (upd (upd (upd (upd (upd (upd (upd ((fun _=>none)) 17 (some (.val (B false)))) 16 (some (.val (I j)))) 15 (some (.val (I (l.map Arg.enc).length)))) 14 (some (.val (.slice .none 2 (l.map Arg.enc))))) 11 (some (.val (.slice o' 1 ((l.map (fun a=>sideOf a.co)).map I))))) 6 (some (.loc 6 0))) 4 (some (.val x4))) 2 (some (.val x2))) 0 (some (.val x0)),upd ((fun _=>none)) 6 (some (cs6)),n',v',D,S⟩):EX (callL p) (.loop F147_l1) ⟨upd (upd (upd (upd (upd (upd (upd (upd ((fun _=>none)) 16 (some (.val (I i)))) 15 (some (.val (I (l.map Arg.enc).length)))) 14 (some (.val (.slice .none 2 (l.map Arg.enc))))) 11 (some (.val (.slice o 1 (((l.take i).map (fun a=>sideOf a.co)).map I))))) 6 (some (.loc 6 0))) 4 (some (.val x4))) 2 (some (.val x2))) 0 (some (.val x0)),upd ((fun _=>none)) 6 (some (cs6)),n,v,D,S⟩ Q:=by
 refine eloop (eseq (ereg (qp rfl (qb ?_))))
 rintro (_ | _) h1
 ·refine qk (kc rfl (kc rfl (kc rfl (kc rfl (kc rfl (kc rfl (kc rfl (kc rfl (kc rfl kn))))))))) (kc rfl kn) (sqn (eseq (ecF rfl (eexit (sqx ?_)))))
  have e:l.take i=l:=List.take_of_length_le (by simp at h1 ⊢;omega)
  rw [e]
  exact hX _ _ _ _
 ·refine qk (kc rfl (kc rfl (kc rfl (kc rfl (kc rfl (kc rfl (kc rfl (kc rfl (kc rfl kn))))))))) (kc rfl kn) (sqn (eseq (ecT rfl (eskip (sqn (eseq (eblock (eseq (ereg ?_)))))))))
  have hlt:i < l.length:=by simpa using h1
  obtain ⟨a,ha⟩:=get_of_lt hlt
  have hd:=drop_cons ha
  refine hia (y:=Arg.enc a) rfl rfl (by omega) (by simp [ha]) rfl (hlda rfl rfl (lc rfl (lc rfl (ln rfl))) (hal (dc (dc (dc (dc (dc (dc (dc (dc (dc (dc (dc dn rfl) rfl) rfl) rfl) rfl) rfl) rfl) rfl) rfl) rfl) rfl) (hstl rfl rfl rfl rfl (Nat.le_of_ble_eq_true rfl) (lc rfl (lc rfl (ln rfl))) (qk (kc rfl (kc rfl (kc rfl (kc rfl (kc rfl (kc rfl (kc rfl (kc rfl (kc rfl kn))))))))) (kc rfl (kc rfl kn)) (sqn (ereg (qp rfl (qp rfl (qp rfl (hcall rfl rfl rfl (cside_c _ a.co) ?_))))))))))
  rintro _ _ ⟨rfl,hq⟩
  obtain rfl:=hq.symm
  refine hbsl rfl rfl (lc rfl (ln rfl)) (hapC rfl rfl hlv (by simp) (by simp;omega) (take_map2 ha) ?_)
  intro v' hv1 hv2
  refine qp rfl (qk (kc rfl (kc rfl (kc rfl (kc rfl (kc rfl (kc rfl (kc rfl (kc rfl kn)))))))) (kc rfl kn) (bqn (sqn (ereg (hadd rfl rfl (i64w (by omega)) (qp rfl (qk (kc rfl (kc rfl (kc rfl (kc rfl (kc rfl (kc rfl (kc rfl (kc rfl kn)))))))) (kc rfl kn) ?_)))))))
  exact cargs_l l (.tip n) (i + 1) (by omega) hs hv1 hX
termination_by l.length - i
decreasing_by all_goals omega
theorem args_cc (s:Sg) (c:Core) (k i0 i1:Nat) (X A:Int → Bool) (left deep:Int) (l:List Node) (as:List Arg) (hz:l.length ≤ 2 ^ 40) (hza:as.length ≤ 2 ^ 40) (hdeep:0 ≤ deep ∧ deep ≤ 4000) (h0:0 ≤ left ∧ left ≤ 2 ^ 40) (hK:KV c k i0 i1 X A left s) (H:∀ b ∈ l,VC c b):HC p N147_ [.ptr k 0,.agg [.map i0,.map i1],SL 5 (l.map Node.enc),encArgs as,I deep] s (fun r s'=>VPost c k i0 i1 X A left s (SortsP c l (as.map fun (a:Arg)=>sideOf a.co) X A left deep) (szL nNodes l) r s'):=by
 refine hcf rfl f147_ rfl ?_
 simp only [chainOf]
 refine eseq (ereg (hbox (dc (dc (dc (dc (dc dn rfl) rfl) rfl) rfl) rfl) rfl (lc rfl (lc rfl (ln rfl))) (qp rfl (qk (kc rfl (kc rfl (kc rfl (kc rfl (kc rfl kn))))) (kc rfl kn) (sqn (eseq (ereg (qp rfl (qk (kc rfl (kc rfl (kc rfl (kc rfl (kc rfl (kc rfl kn)))))) (kc rfl kn) (sqn (eseq (eseq (ereg (qp rfl (qp rfl (qp rfl (qk (kc rfl (kc rfl (kc rfl (kc rfl (kc rfl (kc rfl (kc rfl (kc rfl kn)))))))) (kc rfl kn) (sqn (eblock (cargs_l as .full 0 (by omega) hza trivial ?_))))))))))))))))))))
 ·intro j n1 v1 o1
  refine bqx (sqn (eseq (ereg (qp rfl (hlda rfl rfl (lc rfl (lc rfl (ln rfl))) (qp rfl (qp rfl (qp rfl (hcall rfl rfl rfl (sorts_c _ c k i0 i1 X A left deep l (as.map fun (a:Arg)=>sideOf a.co) hz hdeep h0 hK H) ?_)))))))))
  rintro _ S' ⟨b,left',rfl,hP⟩
  refine qp rfl (qk (kc rfl kn) kn (sqn (eret (fqr rfl ?_))))
  exact ⟨b,left',rfl,hP⟩
theorem KV.ext {c:Core} {k i0 i1:Nat} {X A:Int → Bool} {left:Int} {S S':Sg} (h:KV c k i0 i1 X A left S) (e:Ext S S'):KV c k i0 i1 X A left S' :=
 ⟨(e.ob k h.kl).trans h.hk,h.ps.keep (e.chg (X:=fun _=>False)) id id,Nat.lt_of_lt_of_le h.kl e.nx,h.k0,h.k1⟩
theorem newP_len:∀ (vars:List Int) (cos:List Bool) (X A:Int → Bool),(newP X A vars cos).length ≤ vars.length
 | [],_,_,_=>by simp [newP]
 | v :: vs,cs,X,A=>by
   rw [newP,List.length_append]
   have:=newP_len vs cs.tail (if cs.headD false=false then addV X v else X) (if cs.headD false=true then addV A v else A)
   have h1:(if (if cs.headD false=true then A else X) v=true then [] else [(cs.headD false,v)]).length ≤ 1:=by cases (if cs.headD false=true then A else X) v <;> simp
   rw [List.length_cons]
   omega
theorem en_kv {c:Core} {k i0 i1 bs ba:Nat} {X A X' A':Int → Bool} {ad:List (Bool × Int)} {left:Int} {s S1:Sg} {g:Nat} (hK:KV c k i0 i1 X A left s) (hE:EN g bs ba i0 i1 X' A' ad S1) (hc1:Chg (IXA i0 i1) s S1):KV c k i0 i1 X' A' left S1 :=
 ⟨(hc1.ob k hK.kl (fun h=>by rcases h with h | h;exact hK.k0 h;exact hK.k1 h)).trans hK.hk,hE.hS,Nat.lt_of_lt_of_le hK.kl hc1.nx,hK.k0,hK.k1⟩
theorem lv_c {c:Core} {k i0 i1 bs ba:Nat} {X A:Int → Bool} {vars:List Int} {cos:List Bool} {left left':Int} {s S1 S2:Sg} (hK:KV c k i0 i1 X A left s) (hE:EN s.gn bs ba i0 i1 (addsV false X vars cos) (addsV true A vars cos) (newP X A vars cos) S1) (hc1:Chg (IXA i0 i1) s S1) (hbs:s.nx ≤ bs) (hba:s.nx ≤ ba)
 (hK2:KV c k i0 i1 (addsV false X vars cos) (addsV true A vars cos) left' S2) (hc2:Chg (K3 k i0 i1) S1 S2) (hv:vars.length ≤ 2 ^ 40):HC p N145_ [.ptr ba 0,.ptr bs 0] S2 (fun r S3=>r=[] ∧ KV c k i0 i1 X A left' S3 ∧ Chg (K3 k i0 i1) s S3):=by
 have kl:=hK.kl
 have nb:¬ K3 k i0 i1 bs:=fun h=>by rcases h with h | h | h;omega;exact hE.b0 h;exact hE.b1 h
 have na:¬ K3 k i0 i1 ba:=fun h=>by rcases h with h | h | h;omega;exact hE.a0 h;exact hE.a1 h
 obtain ⟨o,hA,_⟩:=hE.hA
 have hlen:=newP_len vars cos X A
 refine (leave_c S2 bs ba i0 i1 _ _ o (newP X A vars cos) (by omega) ((hc2.ob bs hE.bl nb).trans hE.hB) ((hc2.ob ba hE.al na).trans hA) hK2.ps hE.b0 hE.b1).mono ?_
 rintro r S3 ⟨rfl,hS3,hc3⟩
 have d0:=delP_newP false X A vars cos
 have d1:=delP_newP true X A vars cos
 simp only [if_true,Bool.false_eq_true,if_false] at d0 d1
 rw [d0,d1] at hS3
 have hc3':Chg (K3 k i0 i1) S2 S3:=hc3.mono fun i _ h=>.inr h
 have hc1':Chg (K3 k i0 i1) s S1:=hc1.mono fun i _ h=>.inr h
 exact ⟨rfl,⟨(hc3.ob k hK2.kl (fun h=>by rcases h with h | h;exact hK.k0 h;exact hK.k1 h)).trans hK2.hk,hS3,Nat.lt_of_lt_of_le hK2.kl hc3.nx,hK.k0,hK.k1⟩,hc1'.trans (hc2.trans hc3')⟩
def BrsP (c:Core) (l:List Br) (xs:List Xtor) (X A:Int → Bool) (left deep:Int):Prop:=vBs c.decls c.funs l xs X A=true ∧ (szL (fun b=>nNodes b.body) l:Int) ≤ left ∧ deep + 1 + mxL (fun b=>nDepth b.body) l ≤ 4001
theorem brs_no {c:Core} {b:Br} {l:List Br} {x:Xtor} {xs:List Xtor} {X A:Int → Bool} {left deep:Int} (h:BrsP c (b :: l) (x :: xs) X A left deep):b.vars.length=x.args.length ∧ b.co=(x.args.map fun a=>a.co) ∧ distinctOk [] (b.vars.zip b.co)=true ∧ sortOf b.body.op=2 ∧
 (vN c.decls c.funs b.body (addsV false X b.vars b.co) (addsV true A b.vars b.co)=true ∧ (nNodes b.body:Int) ≤ left ∧ deep + 1 + nDepth b.body ≤ 4001):=by
 obtain ⟨a1,a2,a3⟩:=h
 simp only [vBs,vB_eq,Bool.and_eq_true,decide_eq_true_eq] at a1
 simp only [szL,mxL] at a2 a3
 obtain ⟨⟨⟨⟨⟨b1,b2⟩,b3⟩,b4⟩,b5⟩,_⟩:=a1
 exact ⟨b1,b2,b3,b4,b5,by omega,by omega⟩
theorem brs_cons {c:Core} {b:Br} {l:List Br} {x:Xtor} {xs:List Xtor} {X A:Int → Bool} {left deep:Int} (h:b.vars.length=x.args.length ∧ b.co=(x.args.map fun a=>a.co) ∧ distinctOk [] (b.vars.zip b.co)=true ∧ sortOf b.body.op=2 ∧
 (vN c.decls c.funs b.body (addsV false X b.vars b.co) (addsV true A b.vars b.co)=true ∧ (nNodes b.body:Int) ≤ left ∧ deep + 1 + nDepth b.body ≤ 4001)):BrsP c (b :: l) (x :: xs) X A left deep ↔ BrsP c l xs X A (left - nNodes b.body) deep:=by
 obtain ⟨b1,b2,b3,b4,b5,b6,b7⟩:=h
 simp only [BrsP,vBs,vB_eq,szL,mxL,b5,b4,b3,b1,decide_true,Bool.and_true,Bool.true_and]
 rw [decide_eq_true b2,Bool.true_and]
 constructor
 ·rintro ⟨a1,a2,a3⟩;exact ⟨a1,by omega,by omega⟩
 ·rintro ⟨a1,a2,a3⟩;exact ⟨a1,by omega,by omega⟩
theorem brs_nil {c:Core} {X A:Int → Bool} {left deep:Int} (h0:0 ≤ left) (h1:deep ≤ 4000):BrsP c [] [] X A left deep:=⟨by rw [vBs],by simp [szL];omega,by simp [mxL];omega⟩
theorem cbr_l2 (vs:List Int) (co:List Bool) (bd cs5:List AV) (al:List Arg) (hlen:co.length=al.length) (i:Nat) (hi:i ≤ al.length) (hs:al.length ≤ 2 ^ 40) {x0 x3 x9 x33 x34 x35:AV} {n:Nat} {v:Nat → Bool} {D:List (Nat × List AV)} {S:Sg} {Q:Ex → Fr → Prop}
 (hX:∀ j,co.drop i=(al.drop i).map (fun a=>a.co) → Q (.exit 2) ⟨upd (upd (upd (upd (upd (upd (upd (upd (upd (upd (upd (upd ((fun _=>none)) 65 (some (.val (B false)))) 64 (some (.val (I j)))) 63 (some (.val (I (al.map Arg.enc).length)))) 62 (some (.val (.slice .none 2 (al.map Arg.enc))))) 35 (some (.val x35))) 34 (some (.val x34))) 33 (some (.val x33))) 11 (some (.loc 11 0))) 9 (some (.val x9))) 5 (some (.loc 5 0))) 3 (some (.val x3))) 0 (some (.val x0)),upd (upd ((fun _=>none)) 11 (some (ints vs :: bools co :: bd))) 5 (some (cs5)),n,v,D,S⟩) (hR:co.drop i ≠ (al.drop i).map (fun a=>a.co) → Q .ret ⟨upd ((fun _=>none)) 8 (some (.val (B false))),(fun _=>none),n,v,D,S⟩):EX (callL p) (.loop F149_l2) ⟨upd (upd (upd (upd (upd (upd (upd (upd (upd (upd (upd ((fun _=>none)) 64 (some (.val (I i)))) 63 (some (.val (I (al.map Arg.enc).length)))) 62 (some (.val (.slice .none 2 (al.map Arg.enc))))) 35 (some (.val x35))) 34 (some (.val x34))) 33 (some (.val x33))) 11 (some (.loc 11 0))) 9 (some (.val x9))) 5 (some (.loc 5 0))) 3 (some (.val x3))) 0 (some (.val x0)),upd (upd ((fun _=>none)) 11 (some (ints vs :: bools co :: bd))) 5 (some (cs5)),n,v,D,S⟩ Q:=by
 refine eloop (eseq (ereg (qp rfl (qb ?_))))
 rintro (_ | _) h1
 ·refine qk (kc rfl (kc rfl (kc rfl (kc rfl (kc rfl (kc rfl (kc rfl (kc rfl (kc rfl (kc rfl (kc rfl (kc rfl kn)))))))))))) (kc rfl (kc rfl kn)) (sqn (eseq (ecF rfl (eexit (sqx ?_)))))
  exact hX _ (by rw [List.drop_eq_nil_of_le (by simp at h1 ⊢;omega),List.drop_eq_nil_of_le (by simp at h1 ⊢;omega)];rfl)
 ·refine qk (kc rfl (kc rfl (kc rfl (kc rfl (kc rfl (kc rfl (kc rfl (kc rfl (kc rfl (kc rfl (kc rfl (kc rfl kn)))))))))))) (kc rfl (kc rfl kn)) (sqn (eseq (ecT rfl (eskip (sqn (eseq (eblock (eseq (ereg (qp rfl ?_))))))))))
  have hlt:i < al.length:=by simpa using h1
  obtain ⟨a,ha⟩:=get_of_lt hlt
  have hd:=drop_cons ha
  refine hia (y:=Arg.enc a) rfl rfl (by omega) (by simp [ha]) rfl (hlda rfl rfl (lc rfl (lc rfl (ln rfl))) (hal (dc (dc (dc (dc (dc (dc (dc (dc (dc (dc (dc (dc (dc (dc (dc dn rfl) rfl) rfl) rfl) rfl) rfl) rfl) rfl) rfl) rfl) rfl) rfl) rfl) rfl) rfl) (qp rfl (hstl rfl rfl rfl rfl (Nat.le_of_ble_eq_true rfl) (lc rfl (lc rfl (ln rfl))) (qk (kc rfl (kc rfl (kc rfl (kc rfl (kc rfl (kc rfl (kc rfl (kc rfl (kc rfl (kc rfl (kc rfl (kc rfl (kc rfl kn))))))))))))) (kc rfl (kc rfl (kc rfl kn))) (sqn (eseq (ereg (qp rfl (qp rfl (qp rfl ?_)))))))))))
  obtain ⟨c,hc⟩:=get_of_lt (l:=co) (i:=i) (by omega)
  have hc2:=drop_cons hc
  refine hia (y:=B c) rfl rfl (by omega) (by simp [hc]) rfl (qp rfl (qp rfl (qp rfl (qp rfl (qb ?_)))))
  rintro (_ | _) h2
  ·refine qk (kc rfl (kc rfl (kc rfl (kc rfl (kc rfl (kc rfl (kc rfl (kc rfl (kc rfl (kc rfl (kc rfl (kc rfl kn)))))))))))) (kc rfl (kc rfl kn)) (sqn (ecF rfl (eskip (bqn (sqn (ereg (hadd rfl rfl (i64w (by omega)) (qp rfl (qk (kc rfl (kc rfl (kc rfl (kc rfl (kc rfl (kc rfl (kc rfl (kc rfl (kc rfl (kc rfl (kc rfl kn))))))))))) (kc rfl (kc rfl kn)) ?_)))))))))
   have f1:(!(c == a.co))=false:=by assumption
   have f1':c=a.co:=by simpa using f1
   exact cbr_l2 vs co bd cs5 al hlen (i + 1) (by omega) hs (fun j h=>hX j (by rw [hd,hc2,List.map_cons,h,f1'])) (fun h=>hR (by rw [hd,hc2,List.map_cons];intro q;injection q with q1 q2;exact h q2))
  ·refine qk (kc rfl (kc rfl (kc rfl (kc rfl (kc rfl (kc rfl (kc rfl (kc rfl (kc rfl (kc rfl (kc rfl (kc rfl kn)))))))))))) (kc rfl (kc rfl kn)) (sqn (ecT rfl (eseq (ereg (qp rfl (qk (kc rfl kn) kn (sqn (eret (bqr (sqr ?_))))))))))
   have f1:(!(c == a.co))=true:=by assumption
   have f1':¬ c=a.co:=by simpa using f1
   exact hR (by rw [hd,hc2,List.map_cons];intro q;injection q with q1 q2;exact f1' q1)
termination_by al.length - i
decreasing_by all_goals omega
theorem cbr_l1 {k i0 i1:Nat} (c:Core) (l:List Br) (d:Decl) (X A:Int → Bool) (hlen:l.length=d.xtors.length) (deep:Int) (hdeep:0 ≤ deep ∧ deep ≤ 4000) (hza:∀ x ∈ d.xtors,x.args.length ≤ 2 ^ 40) (hzb:∀ b ∈ l,b.sz ≤ 2 ^ 40) (H:∀ b ∈ l,VC c b.body) (i:Nat) (hi:i ≤ l.length) (hs:l.length ≤ 2 ^ 40) {n:Nat} {v:Nat → Bool} {D:List (Nat × List AV)} {S:Sg} {Q:Ex → Fr → Prop}
 (left:Int) (h0:0 ≤ left ∧ left ≤ 2 ^ 40) (hK:KV c k i0 i1 X A left S)
 (hX:∀ j S' left',KV c k i0 i1 X A left' S' → Chg (K3 k i0 i1) S S' → BrsP c (l.drop i) (d.xtors.drop i) X A left deep → left'=left - szL (fun b=>nNodes b.body) (l.drop i) → 0 ≤ left' → Q (.exit 0) ⟨upd (upd (upd (upd (upd (upd (upd (upd ((fun _=>none)) 36 (some (.val (B false)))) 35 (some (.val (I j)))) 34 (some (.val (I (l.map Br.enc).length)))) 33 (some (.val (.slice .none 7 (l.map Br.enc))))) 9 (some (.val (SL 2 (d.xtors.map Xtor.enc))))) 5 (some (.loc 5 0))) 3 (some (.val (I deep)))) 0 (some (.val (.ptr k 0))),upd ((fun _=>none)) 5 (some ([.map i0,.map i1])),n,v,D,S'⟩)
 (hR:∀ S' left',KV c k i0 i1 X A left' S' → Chg (K3 k i0 i1) S S' → -1 ≤ left' → left' ≤ left → ¬ BrsP c (l.drop i) (d.xtors.drop i) X A left deep → Q .ret ⟨upd ((fun _=>none)) 8 (some (.val (B false))),(fun _=>none),n,v,D,S'⟩):EX (callL p) (.loop F149_l1) ⟨upd (upd (upd (upd (upd (upd (upd ((fun _=>none)) 35 (some (.val (I i)))) 34 (some (.val (I (l.map Br.enc).length)))) 33 (some (.val (.slice .none 7 (l.map Br.enc))))) 9 (some (.val (SL 2 (d.xtors.map Xtor.enc))))) 5 (some (.loc 5 0))) 3 (some (.val (I deep)))) 0 (some (.val (.ptr k 0))),upd ((fun _=>none)) 5 (some ([.map i0,.map i1])),n,v,D,S⟩ Q:=by
 refine eloop (eseq (ereg (qp rfl (qb ?_))))
 rintro (_ | _) h1
 ·refine qk (kc rfl (kc rfl (kc rfl (kc rfl (kc rfl (kc rfl (kc rfl (kc rfl kn)))))))) (kc rfl kn) (sqn (eseq (ecF rfl (eexit (sqx ?_)))))
  exact hX _ _ left hK (Chg.refl _) (by rw [List.drop_eq_nil_of_le (by simp at h1 ⊢;omega),List.drop_eq_nil_of_le (by simp at h1 ⊢;omega)];exact brs_nil h0.1 hdeep.2) (by rw [List.drop_eq_nil_of_le (by simp at h1 ⊢;omega)];simp [szL]) h0.1
 ·refine qk (kc rfl (kc rfl (kc rfl (kc rfl (kc rfl (kc rfl (kc rfl (kc rfl kn)))))))) (kc rfl kn) (sqn (eseq (ecT rfl (eskip (sqn (eseq (eblock (eseq (ereg (qp rfl ?_))))))))))
  have hlt:i < l.length:=by simpa using h1
  obtain ⟨a,ha⟩:=get_of_lt hlt
  have hd:=drop_cons ha
  refine hia (y:=.agg (ints a.vars :: bools a.co :: a.body.cs)) rfl rfl (by omega) (by simp [ha,Node.enc_eq,Br.enc_eq,CFun.enc_eq]) rfl (hlda rfl rfl (lc rfl (lc rfl (lc rfl (lc rfl (lc rfl (lc rfl (lc rfl (ln rfl)))))))) (hal (dc (dc (dc (dc (dc (dc (dc (dc (dc (dc (dc dn rfl) rfl) rfl) rfl) rfl) rfl) rfl) rfl) rfl) rfl) rfl) (qp rfl (hstl rfl rfl rfl rfl (Nat.le_of_ble_eq_true rfl) (lc rfl (lc rfl (lc rfl (lc rfl (lc rfl (lc rfl (lc rfl (ln rfl)))))))) (qk (kc rfl (kc rfl (kc rfl (kc rfl (kc rfl (kc rfl (kc rfl (kc rfl (kc rfl kn))))))))) (kc rfl (kc rfl kn)) (sqn (eseq (eseq (ereg (qp rfl (qp rfl (qp rfl (qp rfl (qp rfl ?_))))))))))))))
  obtain ⟨x,hx⟩:=get_of_lt (l:=d.xtors) (i:=i) (by omega)
  have hx2:=drop_cons hx
  have hzv:=Br.sz_vars a
  have hzz:=hzb a (List.mem_of_getElem? ha)
  refine hia (y:=Xtor.enc x) rfl rfl (by omega) (by simp [hx]) rfl (qp rfl (qp rfl (qp rfl (qp rfl (qb ?_)))))
  rintro (_ | _) h2
  ·refine qp rfl (qg rfl (qp rfl (qg rfl (qp rfl (qg rfl (qp rfl (qg rfl (qp rfl (qg rfl (hcall rfl rfl rfl (binds_c _ a.vars a.co (by omega)) ?_))))))))))
   rintro _ S1 ⟨rfl,hx1⟩
   have hK1:=hK.ext hx1
   refine qb ?_
   rintro (_ | _) h3
   ·refine qg rfl (qp rfl (qp rfl (qk (kc rfl (kc rfl (kc rfl (kc rfl (kc rfl (kc rfl (kc rfl (kc rfl (kc rfl (kc rfl kn)))))))))) (kc rfl (kc rfl kn)) (sqn (ecT rfl (eseq (ereg (qp rfl (qk (kc rfl kn) kn (sqn (eret (sqr (bqr (sqr ?_))))))))))))))
    first
    | (refine hR _ left hK (Chg.refl _) (by omega) (by omega) fun h=>?_
       rw [hd,hx2] at h
       have q:=(brs_no h).1
       simp [q] at h2;done)
    | (refine hR _ left (hK.ext hx1) hx1.chg (by omega) (by omega) fun h=>?_
       rw [hd,hx2] at h
       have q:=brs_no h
       have e:a.vars.length=a.co.length:=by rw [q.2.1,List.length_map];exact q.1
       have g:(decide (a.vars.length=a.co.length) && distinctOk [] (a.vars.zip a.co))=false:=by assumption
       simp [e,q.2.2.1] at g;done)
    | (refine hR _ left (hK.ext hx1) hx1.chg (by omega) (by omega) fun h=>?_
       rw [hd,hx2] at h
       exact hj (by simpa using (brs_no h).2.1))
    | (refine hR _ left' hK3 (hx1.chg.trans hc3) q3 q4 fun h=>?_
       rw [hd,hx2] at h
       have q:=q5.2 (brs_no h).2.2.2.2
       simp_all;done)
    | (refine hR _ left hK3 (hx1.chg.trans hc3) (by omega) (by omega) fun h=>?_
       rw [hd,hx2] at h
       have q:=(brs_no h).2.2.2.1
       simp_all;done)
   ·refine qg rfl (qp rfl (qp rfl (qk (kc rfl (kc rfl (kc rfl (kc rfl (kc rfl (kc rfl (kc rfl (kc rfl (kc rfl (kc rfl kn)))))))))) (kc rfl (kc rfl kn)) (sqn (ecF rfl (eskip (sqn (eseq (eseq (ereg (qp rfl (qp rfl (hia (y:=Xtor.enc x) rfl rfl (by omega) (by simp [hx]) rfl (qp rfl (qp rfl (qp rfl (qp rfl (qk (kc rfl (kc rfl (kc rfl (kc rfl (kc rfl (kc rfl (kc rfl (kc rfl (kc rfl (kc rfl (kc rfl kn))))))))))) (kc rfl (kc rfl kn)) (sqn (eblock ?_))))))))))))))))))))
    refine cbr_l2 a.vars a.co a.body.cs [.map i0,.map i1] x.args (by have hq1:(decide (a.vars.length=a.co.length) && distinctOk [] (a.vars.zip a.co))=true:=(by assumption);simp at hq1 h2;omega) 0 (by omega) (hza x (List.mem_of_getElem? hx)) ?_ ?_
    ·intro j2 hj
     refine bqx (sqn (eseq (ereg (hlda rfl rfl (lc rfl (lc rfl (ln rfl))) (qp rfl (qp rfl (qp rfl (qp rfl (hcall rfl rfl rfl (enter_c _ i0 i1 X A a.vars a.co (by have hq1:(decide (a.vars.length=a.co.length) && distinctOk [] (a.vars.zip a.co))=true:=(by assumption);simp at hq1;omega) (by omega) hK1.ps) ?_)))))))))
     rintro _ S2 ⟨bs,ba,rfl,hE,hc2,hbs,hba⟩
     have hK2:=en_kv hK1 hE hc2
     have b:Bool:=false
     have left':=left
     have hcv:Chg (K3 k i0 i1) S2 S2:=Chg.refl _
     refine qp rfl (qk (kc rfl (kc rfl (kc rfl (kc rfl (kc rfl (kc rfl (kc rfl (kc rfl (kc rfl kn))))))))) (kc rfl (kc rfl kn)) (sqn (eseq (ereg (qp rfl (qp rfl (qp rfl (hcall rfl rfl rfl (Sort_c _ _) ?_))))))))
     rintro _ _ ⟨rfl,hq⟩
     obtain rfl:=hq.symm
     refine qp rfl (qb ?_)
     rintro (_ | _) h4
     ·refine qp rfl (qs rfl rfl (by decide) (qs rfl rfl (by decide) (qs rfl rfl (by decide) (qs rfl rfl (by decide) (qs rfl rfl (by decide) (qs rfl rfl (by decide) (qs rfl rfl (by decide) (qp rfl (qp rfl (qk (kc rfl (kc rfl (kc rfl (kc rfl (kc rfl (kc rfl (kc rfl (kc rfl (kc rfl kn))))))))) (kc rfl kn) (sqn (eseq (ereg (qp rfl (hcall rfl rfl rfl (lv_c hK1 hE hc2 hbs hba hK2 hcv (by omega)) ?_)))))))))))))))
      rintro _ S3 ⟨rfl,hK3,hc3⟩
      refine qk (kc rfl (kc rfl (kc rfl (kc rfl (kc rfl (kc rfl (kc rfl (kc rfl kn)))))))) (kc rfl kn) (sqn (eseq (ereg (qp rfl (qp rfl (qk (kc rfl (kc rfl (kc rfl (kc rfl (kc rfl (kc rfl (kc rfl (kc rfl kn)))))))) (kc rfl kn) (sqn (ecT rfl (eseq (ereg (qp rfl (qk (kc rfl kn) kn (sqn (eret (bqr (sqr ?_))))))))))))))))
      first
      | (refine hR _ left hK (Chg.refl _) (by omega) (by omega) fun h=>?_
         rw [hd,hx2] at h
         have q:=(brs_no h).1
         simp [q] at h2;done)
      | (refine hR _ left (hK.ext hx1) hx1.chg (by omega) (by omega) fun h=>?_
         rw [hd,hx2] at h
         have q:=brs_no h
         have e:a.vars.length=a.co.length:=by rw [q.2.1,List.length_map];exact q.1
         have g:(decide (a.vars.length=a.co.length) && distinctOk [] (a.vars.zip a.co))=false:=by assumption
         simp [e,q.2.2.1] at g;done)
      | (refine hR _ left (hK.ext hx1) hx1.chg (by omega) (by omega) fun h=>?_
         rw [hd,hx2] at h
         exact hj (by simpa using (brs_no h).2.1))
      | (refine hR _ left' hK3 (hx1.chg.trans hc3) q3 q4 fun h=>?_
         rw [hd,hx2] at h
         have q:=q5.2 (brs_no h).2.2.2.2
         simp_all;done)
      | (refine hR _ left hK3 (hx1.chg.trans hc3) (by omega) (by omega) fun h=>?_
         rw [hd,hx2] at h
         have q:=(brs_no h).2.2.2.1
         simp_all;done)
     ·refine qp rfl (qg rfl (qp rfl (qg rfl (hlda rfl rfl (lc rfl (lc rfl (ln rfl))) (qg rfl (qp rfl (qg rfl (hlda rfl rfl (lc rfl (lc rfl (lc rfl (lc rfl (lc rfl (ln rfl)))))) (qg rfl (qp rfl (qg rfl (hadd rfl rfl (i64w (by omega)) (qg rfl (hcall rfl rfl rfl (H a (List.mem_of_getElem? ha) _ k i0 i1 _ _ left (deep + 1) hK2 h0.1 h0.2 (by omega) (by omega)) ?_))))))))))))))
      rintro _ S2' ⟨b,left',rfl,hK2,hcv,q3,q4,q5,q6⟩
      refine qb ?_
      rintro (_ | _) h5
      ·refine qp rfl (qp rfl (qk (kc rfl (kc rfl (kc rfl (kc rfl (kc rfl (kc rfl (kc rfl (kc rfl (kc rfl kn))))))))) (kc rfl kn) (sqn (eseq (ereg (qp rfl (hcall rfl rfl rfl (lv_c hK1 hE hc2 hbs hba hK2 hcv (by omega)) ?_)))))))
       rintro _ S3 ⟨rfl,hK3,hc3⟩
       refine qk (kc rfl (kc rfl (kc rfl (kc rfl (kc rfl (kc rfl (kc rfl (kc rfl kn)))))))) (kc rfl kn) (sqn (eseq (ereg (qp rfl (qp rfl (qk (kc rfl (kc rfl (kc rfl (kc rfl (kc rfl (kc rfl (kc rfl (kc rfl kn)))))))) (kc rfl kn) (sqn (ecT rfl (eseq (ereg (qp rfl (qk (kc rfl kn) kn (sqn (eret (bqr (sqr ?_))))))))))))))))
       first
       | (refine hR _ left hK (Chg.refl _) (by omega) (by omega) fun h=>?_
          rw [hd,hx2] at h
          have q:=(brs_no h).1
          simp [q] at h2;done)
       | (refine hR _ left (hK.ext hx1) hx1.chg (by omega) (by omega) fun h=>?_
          rw [hd,hx2] at h
          have q:=brs_no h
          have e:a.vars.length=a.co.length:=by rw [q.2.1,List.length_map];exact q.1
          have g:(decide (a.vars.length=a.co.length) && distinctOk [] (a.vars.zip a.co))=false:=by assumption
          simp [e,q.2.2.1] at g;done)
       | (refine hR _ left (hK.ext hx1) hx1.chg (by omega) (by omega) fun h=>?_
          rw [hd,hx2] at h
          exact hj (by simpa using (brs_no h).2.1))
       | (refine hR _ left' hK3 (hx1.chg.trans hc3) q3 q4 fun h=>?_
          rw [hd,hx2] at h
          have q:=q5.2 (brs_no h).2.2.2.2
          simp_all;done)
       | (refine hR _ left hK3 (hx1.chg.trans hc3) (by omega) (by omega) fun h=>?_
          rw [hd,hx2] at h
          have q:=(brs_no h).2.2.2.1
          simp_all;done)
      ·refine qp rfl (qp rfl (qk (kc rfl (kc rfl (kc rfl (kc rfl (kc rfl (kc rfl (kc rfl (kc rfl (kc rfl kn))))))))) (kc rfl kn) (sqn (eseq (ereg (qp rfl (hcall rfl rfl rfl (lv_c hK1 hE hc2 hbs hba hK2 hcv (by omega)) ?_)))))))
       rintro _ S3 ⟨rfl,hK3,hc3⟩
       refine qk (kc rfl (kc rfl (kc rfl (kc rfl (kc rfl (kc rfl (kc rfl (kc rfl kn)))))))) (kc rfl kn) (sqn (eseq (ereg (qp rfl (qp rfl (qk (kc rfl (kc rfl (kc rfl (kc rfl (kc rfl (kc rfl (kc rfl (kc rfl kn)))))))) (kc rfl kn) (sqn (ecF rfl (eskip (bqn (sqn (ereg (hadd rfl rfl (i64w (by omega)) (qp rfl (qk (kc rfl (kc rfl (kc rfl (kc rfl (kc rfl (kc rfl (kc rfl kn))))))) (kc rfl kn) ?_)))))))))))))))
       have g1:(decide (a.vars.length=a.co.length) && distinctOk [] (a.vars.zip a.co))=true:=by assumption
       have g2:decide (sortOf a.body.op=2)=true:=by assumption
       have f2:b=true:=by first | assumption | simp_all
       subst f2
       have hv:=q5.1 rfl
       have hl':=q6 rfl
       have hz1:0 ≤ left':=by have:=hv.2.1;omega
       have hco:a.co=x.args.map (fun a=>a.co):=by simpa using hj
       simp only [Bool.and_eq_true,decide_eq_true_eq] at g1 g2
       have hall:=And.intro (show a.vars.length=x.args.length by have:=congrArg List.length hco;simp at this;omega) (And.intro hco (And.intro g1.2 (And.intro g2 hv)))
       exact cbr_l1 c l d X A hlen deep hdeep hza hzb H (i + 1) (by omega) hs left' ⟨hz1,by omega⟩ hK3
        (fun j S4 l4 h c4 e1 e2 e3=>hX j S4 l4 h (hx1.chg.trans (hc3.trans c4)) (by rw [hd,hx2];exact (brs_cons hall).2 (hl' ▸ e1)) (by rw [e2,hl',hd];simp only [szL];omega) e3)
        (fun S4 l4 h c4 e1 e2 e3=>hR S4 l4 h (hx1.chg.trans (hc3.trans c4)) e1 (by omega) (by rw [hd,hx2];exact fun q=>e3 (hl' ▸ (brs_cons hall).1 q)))
    ·intro hj
     refine bqr (sqr (bqr (sqr ?_)))
     first
     | (refine hR _ left hK (Chg.refl _) (by omega) (by omega) fun h=>?_
        rw [hd,hx2] at h
        have q:=(brs_no h).1
        simp [q] at h2;done)
     | (refine hR _ left (hK.ext hx1) hx1.chg (by omega) (by omega) fun h=>?_
        rw [hd,hx2] at h
        have q:=brs_no h
        have e:a.vars.length=a.co.length:=by rw [q.2.1,List.length_map];exact q.1
        have g:(decide (a.vars.length=a.co.length) && distinctOk [] (a.vars.zip a.co))=false:=by assumption
        simp [e,q.2.2.1] at g;done)
     | (refine hR _ left (hK.ext hx1) hx1.chg (by omega) (by omega) fun h=>?_
        rw [hd,hx2] at h
        exact hj (by simpa using (brs_no h).2.1))
     | (refine hR _ left' hK3 (hx1.chg.trans hc3) q3 q4 fun h=>?_
        rw [hd,hx2] at h
        have q:=q5.2 (brs_no h).2.2.2.2
        simp_all;done)
     | (refine hR _ left hK3 (hx1.chg.trans hc3) (by omega) (by omega) fun h=>?_
        rw [hd,hx2] at h
        have q:=(brs_no h).2.2.2.1
        simp_all;done)
  ·refine qp rfl (qs rfl rfl (by decide) (qs rfl rfl (by decide) (qs rfl rfl (by decide) (qs rfl rfl (by decide) (qs rfl rfl (by decide) (qs rfl rfl (by decide) (qp rfl (qk (kc rfl (kc rfl (kc rfl (kc rfl (kc rfl (kc rfl (kc rfl (kc rfl (kc rfl (kc rfl kn)))))))))) (kc rfl (kc rfl kn)) (sqn (ecT rfl (eseq (ereg (qp rfl (qk (kc rfl kn) kn (sqn (eret (sqr (bqr (sqr ?_)))))))))))))))))))
   first
   | (refine hR _ left hK (Chg.refl _) (by omega) (by omega) fun h=>?_
      rw [hd,hx2] at h
      have q:=(brs_no h).1
      simp [q] at h2;done)
   | (refine hR _ left (hK.ext hx1) hx1.chg (by omega) (by omega) fun h=>?_
      rw [hd,hx2] at h
      have q:=brs_no h
      have e:a.vars.length=a.co.length:=by rw [q.2.1,List.length_map];exact q.1
      have g:(decide (a.vars.length=a.co.length) && distinctOk [] (a.vars.zip a.co))=false:=by assumption
      simp [e,q.2.2.1] at g;done)
   | (refine hR _ left (hK.ext hx1) hx1.chg (by omega) (by omega) fun h=>?_
      rw [hd,hx2] at h
      exact hj (by simpa using (brs_no h).2.1))
   | (refine hR _ left' hK3 (hx1.chg.trans hc3) q3 q4 fun h=>?_
      rw [hd,hx2] at h
      have q:=q5.2 (brs_no h).2.2.2.2
      simp_all;done)
   | (refine hR _ left hK3 (hx1.chg.trans hc3) (by omega) (by omega) fun h=>?_
      rw [hd,hx2] at h
      have q:=(brs_no h).2.2.2.1
      simp_all;done)
termination_by l.length - i
decreasing_by all_goals omega
theorem branches_c (s:Sg) (c:Core) (k i0 i1:Nat) (X A:Int → Bool) (left deep:Int) (nd:Node) (d:Decl) (hdl:c.decls.length ≤ 2 ^ 40) (hty:1 ≤ nd.ty ∧ nd.ty ≤ c.decls.length) (hd:c.decls[(nd.ty - 1).toNat]?=some d) (hza:∀ x ∈ d.xtors,x.args.length ≤ 2 ^ 40) (hz:nd.sz ≤ 2 ^ 40) (hdeep:0 ≤ deep ∧ deep ≤ 4000) (h0:0 ≤ left ∧ left ≤ 2 ^ 40) (hK:KV c k i0 i1 X A left s) (H:∀ b ∈ nd.brs,VC c b.body):HC p N149_ [.ptr k 0,.agg [.map i0,.map i1],.agg nd.cs,I deep] s (fun r s'=>VPost c k i0 i1 X A left s (BrsP c nd.brs d.xtors X A left deep) (szL (fun b=>nNodes b.body) nd.brs) r s'):=by
 refine hcf rfl f149_ rfl ?_
 simp only [chainOf]
 refine eseq (ereg (hbox (dc (dc (dc (dc dn rfl) rfl) rfl) rfl) rfl (lc rfl (lc rfl (ln rfl))) (hbox (dc (dc (dc (dc (dc dn rfl) rfl) rfl) rfl) rfl) rfl (lc rfl (lc rfl (lc rfl (lc rfl (lc rfl (ln rfl)))))) (qp rfl (qk (kc rfl (kc rfl (kc rfl (kc rfl kn)))) (kc rfl (kc rfl kn)) (sqn (eseq (ereg (qp rfl (qp rfl (qp rfl (hldo rfl hK.hk rfl ?_))))))))))))
 refine qp rfl (qp rfl (hsub rfl rfl (i64w (by omega)) ?_))
 refine hia (y:=Decl.enc d) rfl rfl (by omega) (by rw [List.getElem?_map,hd];rfl) rfl ?_
 refine qp rfl (qp rfl (qp rfl (qk (kc rfl (kc rfl (kc rfl (kc rfl (kc rfl kn))))) (kc rfl (kc rfl kn)) (sqn (eseq (eseq (ereg (qp rfl (qp rfl (qp rfl (qp rfl (qp rfl (qp rfl (qb ?_))))))))))))))
 rintro (_ | _) h1
 ·refine qk (kc rfl (kc rfl (kc rfl (kc rfl (kc rfl (kc rfl kn)))))) (kc rfl (kc rfl kn)) (sqn (ecF rfl (eskip (sqn (eseq (eseq (ereg (qp rfl (qp rfl (qp rfl (qp rfl (qk (kc rfl (kc rfl (kc rfl (kc rfl (kc rfl (kc rfl (kc rfl kn))))))) (kc rfl kn) (sqn (eblock ?_))))))))))))))
  refine cbr_l1 c nd.brs d X A (by simp at h1;omega) deep hdeep hza (fun b hb=>by have:=Node.sz_br hb;omega) H 0 (by omega) (by have:=nd.sz_brs;omega) left h0 hK ?_ ?_
  ·intro j S1 l1 hK1 hc1 e1 e2 e3
   refine bqx (sqn (eseq (ereg (qp rfl (qk (kc rfl kn) kn (sqn (eret (fqr rfl ?_))))))))
   first
   | (refine ⟨false,left,rfl,hK,Chg.refl _,by omega,by omega,⟨fun h=>by simp at h,fun h=>?_⟩,fun h=>by simp at h⟩
      have:=vBs_len h.1
      simp at h1
      omega)
   | exact ⟨true,l1,rfl,hK1,hc1,by omega,by omega,⟨fun _=>by simpa using e1,fun _=>rfl⟩,fun _=>by simpa using e2⟩
   | exact ⟨false,l1,rfl,hK1,hc1,e1,e2,⟨fun h=>by simp at h,fun h=>absurd (by simpa using h) e3⟩,fun h=>by simp at h⟩
  ·intro S1 l1 hK1 hc1 e1 e2 e3
   refine bqr (sqr (fqr rfl ?_))
   first
   | (refine ⟨false,left,rfl,hK,Chg.refl _,by omega,by omega,⟨fun h=>by simp at h,fun h=>?_⟩,fun h=>by simp at h⟩
      have:=vBs_len h.1
      simp at h1
      omega)
   | exact ⟨true,l1,rfl,hK1,hc1,by omega,by omega,⟨fun _=>by simpa using e1,fun _=>rfl⟩,fun _=>by simpa using e2⟩
   | exact ⟨false,l1,rfl,hK1,hc1,e1,e2,⟨fun h=>by simp at h,fun h=>absurd (by simpa using h) e3⟩,fun h=>by simp at h⟩
 ·refine qk (kc rfl (kc rfl (kc rfl (kc rfl (kc rfl (kc rfl kn)))))) (kc rfl (kc rfl kn)) (sqn (ecT rfl (eseq (ereg (qp rfl (qk (kc rfl kn) kn (sqn (eret (sqr (fqr rfl ?_))))))))))
  first
  | (refine ⟨false,left,rfl,hK,Chg.refl _,by omega,by omega,⟨fun h=>by simp at h,fun h=>?_⟩,fun h=>by simp at h⟩
     have:=vBs_len h.1
     simp at h1
     omega)
  | exact ⟨true,l1,rfl,hK1,hc1,by omega,by omega,⟨fun _=>by simpa using e1,fun _=>rfl⟩,fun _=>by simpa using e2⟩
  | exact ⟨false,l1,rfl,hK1,hc1,e1,e2,⟨fun h=>by simp at h,fun h=>absurd (by simpa using h) e3⟩,fun h=>by simp at h⟩
end Go.Sim.Kd
namespace Go.Sim.Kd
open Go Go.Sim
theorem KV.dec {c:Core} {k i0 i1:Nat} {X A:Int → Bool} {left l':Int} {S:Sg} (h:KV c k i0 i1 X A left S):KV c k i0 i1 X A l' (S.set k (.row [SL 3 (c.decls.map Decl.enc),SL 8 (c.funs.map CFun.enc),I l'])) :=
 ⟨set_ob,⟨by rw [set_ne (Ne.symm h.k0)];exact h.ps.h0,by rw [set_ne (Ne.symm h.k1)];exact h.ps.h1,h.ps.l0,h.ps.l1,h.ps.ne⟩,h.kl,h.k0,h.k1⟩
theorem head_nil {ds:List Decl} {fs:List CFun} {op n ty:Int} {want:List Int} {xs:List Xtor} (h:headOf ds fs op n ty=some (want,xs)) (h4:op ≠ 4) (h8:op ≠ 8):xs=[]:=by
 have key:∀ (cnd:Prop) [Decidable cnd] (w:List Int),(if cnd then some (w,([]:List Xtor)) else none)=some (want,xs) → xs=[]:=by
  intro cnd _ w h
  split at h
  ·simp only [Option.some.injEq,Prod.mk.injEq] at h;exact h.2.symm
  ·cases h
 have hm:¬ (op=4 ∨ op=8):=by omega
 unfold headOf at h
 by_cases c0:op=0 ∨ op=5
 ·rw [if_pos c0] at h;exact key _ _ h
 rw [if_neg c0] at h
 by_cases c1:op=1
 ·rw [if_pos c1] at h;exact key _ _ h
 rw [if_neg c1] at h
 by_cases c2:op=2 ∨ op=6
 ·rw [if_pos c2] at h
  split at h
  ·split at h
   ·simp only [Option.map_eq_some_iff,Prod.mk.injEq] at h;obtain ⟨_,_,_,h⟩:=h;exact h.symm
   ·cases h
  ·cases h
 rw [if_neg c2] at h
 by_cases c3:op=3 ∨ op=7
 ·rw [if_pos c3] at h;exact key _ _ h
 rw [if_neg c3,if_neg hm] at h
 by_cases c9:op=9
 ·rw [if_pos c9] at h;exact key _ _ h
 rw [if_neg c9] at h
 by_cases c10:op=10
 ·rw [if_pos c10] at h;exact key _ _ h
 rw [if_neg c10] at h
 by_cases c11:op=11
 ·rw [if_pos c11] at h;exact key _ _ h
 rw [if_neg c11] at h
 by_cases c12:op=12
 ·rw [if_pos c12] at h;exact key _ _ h
 rw [if_neg c12] at h
 by_cases c13:op=13
 ·rw [if_pos c13] at h
  split at h
  ·simp only [Option.map_eq_some_iff,Prod.mk.injEq] at h;obtain ⟨_,_,_,h⟩:=h;exact h.symm
  ·cases h
 rw [if_neg c13] at h
 by_cases c14:op=14
 ·rw [if_pos c14] at h;exact key _ _ h
 rw [if_neg c14] at h
 cases h
theorem vN_some {ds:List Decl} {fs:List CFun} {a:Node} {X A:Int → Bool} (h:vN ds fs a X A=true):∃ want xs,headOf ds fs a.op a.n a.ty=some (want,xs) ∧ vNs ds fs a.args want (if a.op=7 then addV X a.n else X) (if a.op=3 then addV A a.n else A)=true ∧ vBs ds fs a.brs xs X A=true ∧ (if a.op=0 then X a.n else if a.op=5 then A a.n else true)=true:=by
 rw [vN_eq] at h
 split at h
 ·cases h
 ·rename_i want xs hh
  simp only [Bool.and_eq_true] at h
  exact ⟨want,xs,hh,h.1.2,h.2,h.1.1⟩
theorem vN_none {ds:List Decl} {fs:List CFun} {a:Node} {X A:Int → Bool} (e:headOf ds fs a.op a.n a.ty=none):¬ vN ds fs a X A=true:=by
 rw [vN_eq,e]
 simp
theorem nNodes_pos (a:Node):1 ≤ nNodes a:=by rw [nNodes_eq];split <;> omega
theorem nDepth_pos (a:Node):1 ≤ nDepth a:=by rw [nDepth_eq];split <;> omega
abbrev VPs (c:Core) (nd:Node) (X A:Int → Bool) (left deep:Int):Prop:=vN c.decls c.funs nd X A=true ∧ (nNodes nd:Int) ≤ left ∧ deep + nDepth nd ≤ 4001
theorem head_xtorAt {ds:List Decl} {fs:List CFun} {op n ty:Int} (h:op=2 ∨ op=6):headOf ds fs op n ty=(xtorAt ds ty n (decide (op=6))).map fun x=>(x.args.map fun a=>sideOf a.co,[]):=by
 rw [head_xtor (decide_eq_true h),xtorAt]
 split
 ·rename_i d hd
  rw [hd]
  simp only []
  split <;> rfl
 ·rename_i hd
  rw [hd]
  rfl
section
variable {c:Core} {k i0 i1:Nat} {X A:Int → Bool} {left deep left':Int} {nd:Node} {s S1 S2:Sg} {b:Bool} {want:List Int}
theorem no_post (h0:0 ≤ left) (hK1:KV c k i0 i1 X A (left - 1) S1) (hc1:Chg (K3 k i0 i1) s S1) (hn:¬ VPs c nd X A left deep):VPost c k i0 i1 X A left s (VPs c nd X A left deep) (nNodes nd) [B false] S1 :=
 ⟨false,left - 1,rfl,hK1,hc1,by omega,by omega,⟨fun h=>by simp at h,fun h=>absurd h hn⟩,fun h=>by simp at h⟩
theorem none_post (h0:0 ≤ left) (hK1:KV c k i0 i1 X A (left - 1) S1) (hc1:Chg (K3 k i0 i1) s S1) (e:headOf c.decls c.funs nd.op nd.n nd.ty=none):VPost c k i0 i1 X A left s (VPs c nd X A left deep) (nNodes nd) [B false] S1 :=
 no_post h0 hK1 hc1 fun h=>vN_none e h.1
theorem sorts_P (hl:leafOp nd.op=false) (h05:nd.op ≠ 0 ∧ nd.op ≠ 5) (hb:nd.brs=[]) (hh:headOf c.decls c.funs nd.op nd.n nd.ty=some (want,[])) :
 VPs c nd X A left deep ↔ SortsP c nd.args want (if nd.op=7 then addV X nd.n else X) (if nd.op=3 then addV A nd.n else A) (left - 1) deep:=by
 have e:vN c.decls c.funs nd X A=vNs c.decls c.funs nd.args want (if nd.op=7 then addV X nd.n else X) (if nd.op=3 then addV A nd.n else A):=by
  rw [vN_eq,hh]
  simp only [hb,if_neg h05.1,if_neg h05.2,vBs,Bool.and_true,Bool.true_and]
 simp only [VPs,SortsP,e]
 rw [nNodes_eq,nDepth_eq,hl,hb]
 simp only [szL,mxL,Bool.false_eq_true,if_false]
 constructor
 ·rintro ⟨a1,a2,a3⟩;exact ⟨a1,by omega,by omega⟩
 ·rintro ⟨a1,a2,a3⟩;exact ⟨a1,by omega,by omega⟩
theorem nNodes_sorts (hl:leafOp nd.op=false) (hb:nd.brs=[]):nNodes nd=1 + szL nNodes nd.args:=by
 rw [nNodes_eq,hl,hb]
 simp [szL]
theorem sorts_post (hl:leafOp nd.op=false) (h05:nd.op ≠ 0 ∧ nd.op ≠ 5) (h37:nd.op ≠ 3 ∧ nd.op ≠ 7) (hb:nd.brs=[]) (hh:headOf c.decls c.funs nd.op nd.n nd.ty=some (want,[])) (hc1:Chg (K3 k i0 i1) s S1)
 (hP:KV c k i0 i1 X A left' S2 ∧ Chg (K3 k i0 i1) S1 S2 ∧ -1 ≤ left' ∧ left' ≤ left - 1 ∧ (b=true ↔ SortsP c nd.args want X A (left - 1) deep) ∧ (b=true → left'=left - 1 - szL nNodes nd.args)):VPost c k i0 i1 X A left s (VPs c nd X A left deep) (nNodes nd) [B b] S2:=by
 obtain ⟨p1,p2,p3,p4,p5,p6⟩:=hP
 refine ⟨b,left',rfl,p1,hc1.trans p2,p3,by omega,?_,fun h=>?_⟩
 ·rw [p5,sorts_P hl h05 hb hh,if_neg h37.1,if_neg h37.2]
 ·rw [p6 h,nNodes_sorts hl hb];omega
theorem mu_post (h37:nd.op=3 ∨ nd.op=7) (hb:nd.brs=[]) (hh:headOf c.decls c.funs nd.op nd.n nd.ty=some ([2],[])) {S3:Sg} (hK3:KV c k i0 i1 X A left' S3) (hc:Chg (K3 k i0 i1) s S3) (p3:-1 ≤ left') (p4:left' ≤ left - 1)
 (p5:b=true ↔ SortsP c nd.args [2] (addsV false X [nd.n] [decide (nd.op=3)]) (addsV true A [nd.n] [decide (nd.op=3)]) (left - 1) deep) (p6:b=true → left'=left - 1 - szL nNodes nd.args):VPost c k i0 i1 X A left s (VPs c nd X A left deep) (nNodes nd) [B b] S3:=by
 have hl:leafOp nd.op=false:=by rcases h37 with h | h <;> rw [h] <;> rfl
 have h05:nd.op ≠ 0 ∧ nd.op ≠ 5:=by omega
 have e1:addsV false X [nd.n] [decide (nd.op=3)]=if nd.op=7 then addV X nd.n else X:=by
  rcases h37 with h | h
  ·simp [addsV,h]
  ·simp [addsV,h]
 have e2:addsV true A [nd.n] [decide (nd.op=3)]=if nd.op=3 then addV A nd.n else A:=by
  rcases h37 with h | h
  ·simp [addsV,h]
  ·simp [addsV,h]
 refine ⟨b,left',rfl,hK3,hc,p3,by omega,?_,fun h=>?_⟩
 ·rw [p5,sorts_P hl h05 hb hh,e1,e2]
 ·rw [p6 h,nNodes_sorts hl hb];omega
theorem brs_post {d:Decl} (h48:nd.op=4 ∨ nd.op=8) (ha:nd.args=[]) (hh:headOf c.decls c.funs nd.op nd.n nd.ty=some ([],d.xtors)) (hc1:Chg (K3 k i0 i1) s S1)
 (hP:KV c k i0 i1 X A left' S2 ∧ Chg (K3 k i0 i1) S1 S2 ∧ -1 ≤ left' ∧ left' ≤ left - 1 ∧ (b=true ↔ BrsP c nd.brs d.xtors X A (left - 1) deep) ∧ (b=true → left'=left - 1 - szL (fun b=>nNodes b.body) nd.brs)):VPost c k i0 i1 X A left s (VPs c nd X A left deep) (nNodes nd) [B b] S2:=by
 obtain ⟨p1,p2,p3,p4,p5,p6⟩:=hP
 have hl:leafOp nd.op=false:=by rcases h48 with h | h <;> rw [h] <;> rfl
 have e:vN c.decls c.funs nd X A=vBs c.decls c.funs nd.brs d.xtors X A:=by
  rw [vN_eq,hh]
  simp only [ha,vNs,Bool.and_true,Bool.true_and]
  rw [if_neg (by omega),if_neg (by omega),Bool.true_and]
 refine ⟨b,left',rfl,p1,hc1.trans p2,p3,by omega,?_,fun h=>?_⟩
 ·rw [p5]
  simp only [VPs,BrsP,e]
  rw [nNodes_eq,nDepth_eq,hl,ha]
  simp only [szL,mxL,Bool.false_eq_true,if_false]
  constructor
  ·rintro ⟨a1,a2,a3⟩;exact ⟨a1,by omega,by omega⟩
  ·rintro ⟨a1,a2,a3⟩;exact ⟨a1,by omega,by omega⟩
 ·rw [p6 h,nNodes_eq,hl,ha];simp [szL];omega
theorem leaf_post (hl:leafOp nd.op=true) (h0:0 ≤ left - 1) (hd:deep ≤ 4000) (hK1:KV c k i0 i1 X A (left - 1) S1) (hc1:Chg (K3 k i0 i1) s S1) (e:b=vN c.decls c.funs nd X A):VPost c k i0 i1 X A left s (VPs c nd X A left deep) (nNodes nd) [B b] S1:=by
 have n1:nNodes nd=1:=by rw [nNodes_eq,if_pos hl]
 have d1:nDepth nd=1:=by rw [nDepth_eq,if_pos hl]
 refine ⟨b,left - 1,rfl,hK1,hc1,by omega,by omega,?_,fun _=>by rw [n1];omega⟩
 rw [e]
 simp only [VPs,n1,d1]
 exact ⟨fun h=>⟨h,by omega,by omega⟩,fun h=>h.1⟩
end
theorem vNs_nil {ds:List Decl} {fs:List CFun} {X A:Int → Bool} {l:List Node}:vNs ds fs l [] X A=decide (l.length=0):=by
 cases l with
 | nil=>rw [vNs];rfl
 | cons a l=>simp [vNs]
theorem vBs_nil {ds:List Decl} {fs:List CFun} {X A:Int → Bool}:vBs ds fs [] [] X A=true:=by rw [vBs]
theorem valid_c0 (c:Core) (hc:CoreSz c) (nd:Node) (hz:nd.sz ≤ 2 ^ 40) (H1:∀ b ∈ nd.args,VC c b) (H2:∀ b ∈ nd.brs,VC c b.body) (s:Sg) (k i0 i1:Nat) (X A:Int → Bool) (left deep:Int) (hK:KV c k i0 i1 X A left s) (h0:0 ≤ left) (h00:left ≤ 2 ^ 40) (hd1:0 ≤ deep) (hd2:deep ≤ 4001):HC p N94_ [.ptr k 0,.agg [.map i0,.map i1],.agg nd.cs,I deep] s (fun r s'=>VPost c k i0 i1 X A left s (vN c.decls c.funs nd X A=true ∧ (nNodes nd:Int) ≤ left ∧ deep + nDepth nd ≤ 4001) (nNodes nd) r s'):=by
 have hza:nd.args.length ≤ 2 ^ 40:=by have:=nd.sz_args;omega
 refine hcf rfl f94_ rfl ?_
 simp only [chainOf]
 refine eseq (ereg (hbox (dc (dc (dc (dc dn rfl) rfl) rfl) rfl) rfl (lc rfl (lc rfl (ln rfl))) (hbox (dc (dc (dc (dc (dc dn rfl) rfl) rfl) rfl) rfl) rfl (lc rfl (lc rfl (lc rfl (lc rfl (lc rfl (ln rfl)))))) (qp rfl (qk (kc rfl (kc rfl (kc rfl (kc rfl kn)))) (kc rfl (kc rfl kn)) (sqn (eseq (ereg (qp rfl (qp rfl (qp rfl (hldo rfl hK.hk rfl ?_))))))))))))
 refine hsub rfl rfl (i64w (by omega)) (qp rfl (qp rfl (hsto (cs':=[SL 3 (c.decls.map Decl.enc),SL 8 (c.funs.map CFun.enc),I (left - 1)]) rfl rfl hK.hk rfl (Nat.le_of_ble_eq_true rfl) (by simp) (by rfl) ?_)))
 have hK1:=hK.dec (l':=left - 1)
 have hc1:Chg (K3 k i0 i1) s (s.set k (.row [SL 3 (c.decls.map Decl.enc),SL 8 (c.funs.map CFun.enc),I (left - 1)])):=(Chg.refl s).set fun _=>.inl rfl
 generalize s.set k (.row [SL 3 (c.decls.map Decl.enc),SL 8 (c.funs.map CFun.enc),I (left - 1)])=S1 at hK1 hc1 ⊢
 refine qk (kc rfl (kc rfl (kc rfl (kc rfl kn)))) (kc rfl (kc rfl kn)) (sqn (eseq (eseq (ereg (qp rfl (qp rfl (qp rfl (hldo rfl hK1.hk rfl ?_))))))))
 refine qp rfl (qb ?_)
 rintro (_ | _) h1
 ·refine qp rfl (qg rfl (qp rfl (qg rfl (qp rfl (qb ?_)))))
  rintro (_ | _) h2
  ·refine qp rfl (qk (kc rfl (kc rfl (kc rfl (kc rfl (kc rfl kn))))) (kc rfl (kc rfl kn)) (sqn (ecF rfl (eskip (sqn (eseq (eseq ?_)))))))
   refine ejoin 43 (decide (nd.op ≠ 4) && decide (nd.op ≠ 8) && decide (nd.brs.length ≠ 0)) (k:=[0,3,5,6,43]) (kl:=[5,6]) (kc rfl (kc rfl (kc rfl (kc rfl (kc rfl kn))))) (kc rfl (kc rfl kn)) ?_ ?_
   ·refine ereg (qp rfl (qp rfl (qp rfl (qb ?_))))
    rintro (_ | _) h3
    ·refine qp rfl (qs rfl rfl (by decide) (qs rfl rfl (by decide) (qs rfl rfl (by decide) (qp rfl (qp rfl (qs rfl rfl (by decide) (qs rfl rfl (by decide) (qs rfl rfl (by decide) (qs rfl rfl (by decide) (qp rfl (qk (kc rfl (kc rfl (kc rfl (kc rfl (kc rfl kn))))) (kc rfl (kc rfl kn)) ?_)))))))))))
     exact ⟨rfl,by rw [show (decide (nd.op ≠ 4) && decide (nd.op ≠ 8) && decide (nd.brs.length ≠ 0))=false from by (simp_all;try omega)]⟩
    ·refine qp rfl (qg rfl (qp rfl (qg rfl (qp rfl (qg rfl (qp rfl (qb ?_)))))))
     rintro (_ | _) h4
     ·refine qp rfl (qp rfl (qs rfl rfl (by decide) (qs rfl rfl (by decide) (qs rfl rfl (by decide) (qs rfl rfl (by decide) (qp rfl (qk (kc rfl (kc rfl (kc rfl (kc rfl (kc rfl kn))))) (kc rfl (kc rfl kn)) ?_)))))))
      exact ⟨rfl,by rw [show (decide (nd.op ≠ 4) && decide (nd.op ≠ 8) && decide (nd.brs.length ≠ 0))=false from by (simp_all;try omega)]⟩
     ·refine qp rfl (qp rfl (qg rfl (qp rfl (qg rfl (qp rfl (qg rfl (qp rfl (qg rfl (qp rfl (qb ?_))))))))))
      rintro (_ | _) h5
      ·refine qp rfl (qk (kc rfl (kc rfl (kc rfl (kc rfl (kc rfl kn))))) (kc rfl (kc rfl kn)) ?_)
       exact ⟨rfl,by rw [show (decide (nd.op ≠ 4) && decide (nd.op ≠ 8) && decide (nd.brs.length ≠ 0))=false from by (simp_all;try omega)]⟩
      ·refine qp rfl (qk (kc rfl (kc rfl (kc rfl (kc rfl (kc rfl kn))))) (kc rfl (kc rfl kn)) ?_)
       exact ⟨rfl,by rw [show (decide (nd.op ≠ 4) && decide (nd.op ≠ 8) && decide (nd.brs.length ≠ 0))=true from by (simp_all;try omega)]⟩
   ·refine sqn ?_
    refine ecS rfl ?_ ?_
    ·intro h6
     refine eseq (ereg (qp rfl (qk (kc rfl kn) kn (sqn (eret (sqr (fqr rfl (no_post h0 hK1 hc1 fun h=>?_))))))))
     have g:(decide (nd.op ≠ 4) && decide (nd.op ≠ 8) && decide (nd.brs.length ≠ 0))=true:=by assumption
     simp only [Bool.and_eq_true,decide_eq_true_eq] at g
     obtain ⟨want,xs,e1,e2,e3,_⟩:=vN_some h.1
     have:=vBs_len e3
     rw [head_nil e1 g.1.1 g.1.2] at this
     exact g.2 this
    ·intro h6
     refine eskip (sqn (eseq ?_))
     refine ejoin 9 (typedOk c.decls nd.ty) (k:=[0,3,5,6,9]) (kl:=[5,6]) (kc rfl (kc rfl (kc rfl (kc rfl (kc rfl kn))))) (kc rfl (kc rfl kn)) ?_ ?_
     ·refine ereg (qp rfl (qp rfl (qp rfl (qb ?_))))
      rintro (_ | _) h7
      ·refine qp rfl (qs rfl rfl (by decide) (qs rfl rfl (by decide) (qs rfl rfl (by decide) (qs rfl rfl (by decide) (qs rfl rfl (by decide) (qs rfl rfl (by decide) (qs rfl rfl (by decide) (qs rfl rfl (by decide) (qp rfl (qp rfl (qk (kc rfl (kc rfl (kc rfl (kc rfl (kc rfl kn))))) (kc rfl (kc rfl kn)) ?_)))))))))))
       exact ⟨rfl,by rw [show (typedOk c.decls nd.ty)=false from by (simp_all [typedOk];try omega)]⟩
      ·refine qp rfl (qg rfl (qp rfl (qg rfl (qp rfl (qg rfl (qp rfl (qg rfl (qp rfl (qg rfl (qp rfl (qg rfl (hldo rfl hK1.hk rfl ?_))))))))))))
       refine qg rfl (qp rfl (qg rfl (qp rfl (qb ?_))))
       rintro (_ | _) h8
       ·refine qp rfl (qp rfl (qk (kc rfl (kc rfl (kc rfl (kc rfl (kc rfl kn))))) (kc rfl (kc rfl kn)) ?_))
        exact ⟨rfl,by rw [show (typedOk c.decls nd.ty)=false from by (simp_all [typedOk];try omega)]⟩
       ·refine qp rfl (qp rfl (qk (kc rfl (kc rfl (kc rfl (kc rfl (kc rfl kn))))) (kc rfl (kc rfl kn)) ?_))
        exact ⟨rfl,by rw [show (typedOk c.decls nd.ty)=true from by (simp_all [typedOk];try omega)]⟩
     ·refine sqn (eseq (eseq (ereg (qp rfl (qp rfl (qk (kc rfl (kc rfl (kc rfl (kc rfl (kc rfl (kc rfl kn)))))) (kc rfl (kc rfl kn)) (sqn (eblock (eseq ?_)))))))))
      refine ejoin 59 (decide (nd.op=0 ∨ nd.op=5)) (k:=[0,3,5,6,9,58,59]) (kl:=[5,6]) (kc rfl (kc rfl (kc rfl (kc rfl (kc rfl (kc rfl (kc rfl kn))))))) (kc rfl (kc rfl kn)) ?_ ?_
      ·refine eseq (ereg (qp rfl (qb ?_)))
       rintro (_ | _) h9
       ·refine qp rfl (qk (kc rfl (kc rfl (kc rfl (kc rfl (kc rfl (kc rfl (kc rfl kn))))))) (kc rfl (kc rfl kn)) (sqn (ecF rfl (ereg (qp rfl (qb ?_))))))
        rintro (_ | _) h10
        ·refine qp rfl (qk (kc rfl (kc rfl (kc rfl (kc rfl (kc rfl (kc rfl (kc rfl kn))))))) (kc rfl (kc rfl kn)) ?_)
         exact ⟨rfl,by rw [show (decide (nd.op=0 ∨ nd.op=5))=false from by (simp_all;try omega)]⟩
        ·refine qp rfl (qk (kc rfl (kc rfl (kc rfl (kc rfl (kc rfl (kc rfl (kc rfl kn))))))) (kc rfl (kc rfl kn)) ?_)
         exact ⟨rfl,by rw [show (decide (nd.op=0 ∨ nd.op=5))=true from by (simp_all;try omega)]⟩
       ·refine qp rfl (qk (kc rfl (kc rfl (kc rfl (kc rfl (kc rfl (kc rfl (kc rfl kn))))))) (kc rfl (kc rfl kn)) (sqn (ecT rfl (eskip ?_))))
        exact ⟨rfl,by rw [show (decide (nd.op=0 ∨ nd.op=5))=true from by (simp_all;try omega)]⟩
      ·refine sqn ?_
       refine ecS rfl ?_ ?_
       ·intro h11
        refine eseq (ereg (qp rfl (qp rfl (qp rfl (qb ?_)))))
        rintro (_ | _) h12
        ·refine qp rfl (qs rfl rfl (by decide) (qs rfl rfl (by decide) (qs rfl rfl (by decide) (qs rfl rfl (by decide) (qp rfl (qp rfl (qs rfl rfl (by decide) (qs rfl rfl (by decide) (qs rfl rfl (by decide) (qp rfl (qp rfl (qs rfl rfl (by decide) (qs rfl rfl (by decide) (qs rfl rfl (by decide) (qs rfl rfl (by decide) (qs rfl rfl (by decide) (qs rfl rfl (by decide) (qs rfl rfl (by decide) (qs rfl rfl (by decide) (qp rfl (qp rfl (qk (kc rfl kn) kn (sqn ?_)))))))))))))))))))))))
         refine eret (bqr (sqr (fqr rfl ?_)))
         have ho:nd.op=0 ∨ nd.op=5:=of_decide_eq_true (by assumption)
         have hl:leafOp nd.op=true:=by rcases ho with h | h <;> rw [h] <;> rfl
         have hb0:nd.brs=[]:=by
          have g:(decide (nd.op ≠ 4) && decide (nd.op ≠ 8) && decide (nd.brs.length ≠ 0))=false:=by assumption
          have g2:nd.op=4 ∨ nd.op=8 ∨ nd.brs.length=0:=by simpa [Decidable.or_iff_not_imp_left] using g
          exact List.eq_nil_of_length_eq_zero (by omega)
         have hhd:=head_var (ds:=c.decls) (fs:=c.funs) (n:=nd.n) (ty:=nd.ty) (decide_eq_true ho)
         have hl0:0 ≤ left - 1:=by have g:decide (left - 1 < 0)=false:=(by assumption);simpa using g
         have hd0:deep ≤ 4000:=by have g:decide (4000 < deep)=false:=(by assumption);simpa using g
         first
         | exact none_post h0 hK1 hc1 (hhd.trans (if_neg (fun q=>by first | exact absurd q.1 (of_decide_eq_false (by assumption)) | exact absurd q.1 (Bool.eq_false_iff.1 (by assumption)) | exact absurd q.2 (of_decide_eq_false (by assumption)) | exact absurd q.2 (Bool.eq_false_iff.1 (by assumption)))))
         | (refine no_post h0 hK1 hc1 fun h=>?_
            have g:decide (((nd.args.map Node.enc).length:Int)=0)=false:=by assumption
            obtain ⟨want,xs,e1,e2,_⟩:=vN_some h.1
            rw [hhd] at e1
            split at e1
            ·simp only [Option.some.injEq,Prod.mk.injEq] at e1
             obtain ⟨rfl,rfl⟩:=e1
             have:=vNs_len e2
             simp at this
             simp [this] at g
            ·cases e1)
         | (refine leaf_post hl hl0 hd0 hK1 hc1 ?_
            have g:decide (((nd.args.map Node.enc).length:Int)=0)=true:=by assumption
            have ha:nd.args=[]:=by simp at g;first | exact g | exact List.eq_nil_of_length_eq_zero (by omega)
            have hh2:=hhd.trans (if_pos ⟨of_decide_eq_true (by assumption),by assumption⟩)
            rw [vN_eq,hh2,ha,hb0]
            simp only [vNs,vBs,Bool.and_true]
            rcases ho with h | h
            ·simp [h]
            ·simp [h])
        ·refine qp rfl (qg rfl (qp rfl (qg rfl (qp rfl (qg rfl (qp rfl (qg rfl (qp rfl (qb ?_)))))))))
         rintro (_ | _) h13
         ·refine qp rfl (qp rfl (qs rfl rfl (by decide) (qs rfl rfl (by decide) (qs rfl rfl (by decide) (qp rfl (qp rfl (qs rfl rfl (by decide) (qs rfl rfl (by decide) (qs rfl rfl (by decide) (qs rfl rfl (by decide) (qs rfl rfl (by decide) (qs rfl rfl (by decide) (qs rfl rfl (by decide) (qs rfl rfl (by decide) (qp rfl (qp rfl (qk (kc rfl kn) kn (sqn (eret (bqr (sqr (fqr rfl ?_))))))))))))))))))))))
          have ho:nd.op=0 ∨ nd.op=5:=of_decide_eq_true (by assumption)
          have hl:leafOp nd.op=true:=by rcases ho with h | h <;> rw [h] <;> rfl
          have hb0:nd.brs=[]:=by
           have g:(decide (nd.op ≠ 4) && decide (nd.op ≠ 8) && decide (nd.brs.length ≠ 0))=false:=by assumption
           have g2:nd.op=4 ∨ nd.op=8 ∨ nd.brs.length=0:=by simpa [Decidable.or_iff_not_imp_left] using g
           exact List.eq_nil_of_length_eq_zero (by omega)
          have hhd:=head_var (ds:=c.decls) (fs:=c.funs) (n:=nd.n) (ty:=nd.ty) (decide_eq_true ho)
          have hl0:0 ≤ left - 1:=by have g:decide (left - 1 < 0)=false:=(by assumption);simpa using g
          have hd0:deep ≤ 4000:=by have g:decide (4000 < deep)=false:=(by assumption);simpa using g
          first
          | exact none_post h0 hK1 hc1 (hhd.trans (if_neg (fun q=>by first | exact absurd q.1 (of_decide_eq_false (by assumption)) | exact absurd q.1 (Bool.eq_false_iff.1 (by assumption)) | exact absurd q.2 (of_decide_eq_false (by assumption)) | exact absurd q.2 (Bool.eq_false_iff.1 (by assumption)))))
          | (refine no_post h0 hK1 hc1 fun h=>?_
             have g:decide (((nd.args.map Node.enc).length:Int)=0)=false:=by assumption
             obtain ⟨want,xs,e1,e2,_⟩:=vN_some h.1
             rw [hhd] at e1
             split at e1
             ·simp only [Option.some.injEq,Prod.mk.injEq] at e1
              obtain ⟨rfl,rfl⟩:=e1
              have:=vNs_len e2
              simp at this
              simp [this] at g
             ·cases e1)
          | (refine leaf_post hl hl0 hd0 hK1 hc1 ?_
             have g:decide (((nd.args.map Node.enc).length:Int)=0)=true:=by assumption
             have ha:nd.args=[]:=by simp at g;first | exact g | exact List.eq_nil_of_length_eq_zero (by omega)
             have hh2:=hhd.trans (if_pos ⟨of_decide_eq_true (by assumption),by assumption⟩)
             rw [vN_eq,hh2,ha,hb0]
             simp only [vNs,vBs,Bool.and_true]
             rcases ho with h | h
             ·simp [h]
             ·simp [h])
         ·refine qp rfl (qp rfl (qg rfl (qp rfl (qg rfl (qp rfl (qg rfl (hcall rfl rfl rfl (number_c _ _) ?_)))))))
          rintro _ _ ⟨rfl,hq⟩
          obtain rfl:=hq.symm
          refine qb ?_
          rintro (_ | _) h14
          ·refine qp rfl (qp rfl (qs rfl rfl (by decide) (qs rfl rfl (by decide) (qs rfl rfl (by decide) (qs rfl rfl (by decide) (qs rfl rfl (by decide) (qs rfl rfl (by decide) (qs rfl rfl (by decide) (qs rfl rfl (by decide) (qp rfl (qp rfl (qk (kc rfl kn) kn (sqn (eret (bqr (sqr (fqr rfl ?_)))))))))))))))))
           have ho:nd.op=0 ∨ nd.op=5:=of_decide_eq_true (by assumption)
           have hl:leafOp nd.op=true:=by rcases ho with h | h <;> rw [h] <;> rfl
           have hb0:nd.brs=[]:=by
            have g:(decide (nd.op ≠ 4) && decide (nd.op ≠ 8) && decide (nd.brs.length ≠ 0))=false:=by assumption
            have g2:nd.op=4 ∨ nd.op=8 ∨ nd.brs.length=0:=by simpa [Decidable.or_iff_not_imp_left] using g
            exact List.eq_nil_of_length_eq_zero (by omega)
           have hhd:=head_var (ds:=c.decls) (fs:=c.funs) (n:=nd.n) (ty:=nd.ty) (decide_eq_true ho)
           have hl0:0 ≤ left - 1:=by have g:decide (left - 1 < 0)=false:=(by assumption);simpa using g
           have hd0:deep ≤ 4000:=by have g:decide (4000 < deep)=false:=(by assumption);simpa using g
           first
           | exact none_post h0 hK1 hc1 (hhd.trans (if_neg (fun q=>by first | exact absurd q.1 (of_decide_eq_false (by assumption)) | exact absurd q.1 (Bool.eq_false_iff.1 (by assumption)) | exact absurd q.2 (of_decide_eq_false (by assumption)) | exact absurd q.2 (Bool.eq_false_iff.1 (by assumption)))))
           | (refine no_post h0 hK1 hc1 fun h=>?_
              have g:decide (((nd.args.map Node.enc).length:Int)=0)=false:=by assumption
              obtain ⟨want,xs,e1,e2,_⟩:=vN_some h.1
              rw [hhd] at e1
              split at e1
              ·simp only [Option.some.injEq,Prod.mk.injEq] at e1
               obtain ⟨rfl,rfl⟩:=e1
               have:=vNs_len e2
               simp at this
               simp [this] at g
              ·cases e1)
           | (refine leaf_post hl hl0 hd0 hK1 hc1 ?_
              have g:decide (((nd.args.map Node.enc).length:Int)=0)=true:=by assumption
              have ha:nd.args=[]:=by simp at g;first | exact g | exact List.eq_nil_of_length_eq_zero (by omega)
              have hh2:=hhd.trans (if_pos ⟨of_decide_eq_true (by assumption),by assumption⟩)
              rw [vN_eq,hh2,ha,hb0]
              simp only [vNs,vBs,Bool.and_true]
              rcases ho with h | h
              ·simp [h]
              ·simp [h])
          ·refine qp rfl (qp rfl (qg rfl (qp rfl (qg rfl (qp rfl (qg rfl (hcall rfl rfl rfl (Sort_c _ _) ?_)))))))
           rintro _ _ ⟨rfl,hq⟩
           obtain rfl:=hq.symm
           refine qg rfl ?_
           have hso:sortOf nd.op=sideOf (decide (nd.op=5)):=by
            have g:nd.op=0 ∨ nd.op=5:=of_decide_eq_true (by assumption)
            rcases g with g | g <;> rw [g] <;> rfl
           refine qp (t:=.loc 5 (0 + (sideOf (decide (nd.op=5))).toNat * 1)) (by rw [hso];cases decide (nd.op=5) <;> rfl) ?_
           refine qg rfl ?_
           refine qp (t:=.val (.map (if decide (nd.op=5) then i1 else i0))) (by cases decide (nd.op=5) <;> rfl) ?_
           refine qg rfl (qp rfl (qg rfl (qp rfl (qg rfl (hlk (m:=setM (if decide (nd.op=5) then A else X)) rfl rfl rfl (hK1.ps.at _) ?_)))))
           rw [setM_get]
           refine qp rfl (qp rfl (qk (kc rfl kn) kn (sqn (eret (bqr (sqr (fqr rfl ?_)))))))
           have ho:nd.op=0 ∨ nd.op=5:=of_decide_eq_true (by assumption)
           have hl:leafOp nd.op=true:=by rcases ho with h | h <;> rw [h] <;> rfl
           have hb0:nd.brs=[]:=by
            have g:(decide (nd.op ≠ 4) && decide (nd.op ≠ 8) && decide (nd.brs.length ≠ 0))=false:=by assumption
            have g2:nd.op=4 ∨ nd.op=8 ∨ nd.brs.length=0:=by simpa [Decidable.or_iff_not_imp_left] using g
            exact List.eq_nil_of_length_eq_zero (by omega)
           have hhd:=head_var (ds:=c.decls) (fs:=c.funs) (n:=nd.n) (ty:=nd.ty) (decide_eq_true ho)
           have hl0:0 ≤ left - 1:=by have g:decide (left - 1 < 0)=false:=(by assumption);simpa using g
           have hd0:deep ≤ 4000:=by have g:decide (4000 < deep)=false:=(by assumption);simpa using g
           first
           | exact none_post h0 hK1 hc1 (hhd.trans (if_neg (fun q=>by first | exact absurd q.1 (of_decide_eq_false (by assumption)) | exact absurd q.1 (Bool.eq_false_iff.1 (by assumption)) | exact absurd q.2 (of_decide_eq_false (by assumption)) | exact absurd q.2 (Bool.eq_false_iff.1 (by assumption)))))
           | (refine no_post h0 hK1 hc1 fun h=>?_
              have g:decide (((nd.args.map Node.enc).length:Int)=0)=false:=by assumption
              obtain ⟨want,xs,e1,e2,_⟩:=vN_some h.1
              rw [hhd] at e1
              split at e1
              ·simp only [Option.some.injEq,Prod.mk.injEq] at e1
               obtain ⟨rfl,rfl⟩:=e1
               have:=vNs_len e2
               simp at this
               simp [this] at g
              ·cases e1)
           | (refine leaf_post hl hl0 hd0 hK1 hc1 ?_
              have g:decide (((nd.args.map Node.enc).length:Int)=0)=true:=by assumption
              have ha:nd.args=[]:=by simp at g;first | exact g | exact List.eq_nil_of_length_eq_zero (by omega)
              have hh2:=hhd.trans (if_pos ⟨of_decide_eq_true (by assumption),by assumption⟩)
              rw [vN_eq,hh2,ha,hb0]
              simp only [vNs,vBs,Bool.and_true]
              rcases ho with h | h
              ·simp [h]
              ·simp [h])
       ·intro h11
        refine eseq (ereg (qp rfl (qb ?_)))
        rintro (_ | _) h15
        ·refine qp rfl (qk (kc rfl (kc rfl (kc rfl (kc rfl (kc rfl (kc rfl (kc rfl kn))))))) (kc rfl (kc rfl kn)) (sqn (ecF rfl (eseq ?_))))
         refine ejoin 97 (decide (nd.op=2 ∨ nd.op=6)) (k:=[0,3,5,6,9,58,97]) (kl:=[5,6]) (kc rfl (kc rfl (kc rfl (kc rfl (kc rfl (kc rfl (kc rfl kn))))))) (kc rfl (kc rfl kn)) ?_ ?_
         ·refine eseq (ereg (qp rfl (qb ?_)))
          rintro (_ | _) h16
          ·refine qp rfl (qk (kc rfl (kc rfl (kc rfl (kc rfl (kc rfl (kc rfl (kc rfl kn))))))) (kc rfl (kc rfl kn)) (sqn (ecF rfl (ereg (qp rfl (qb ?_))))))
           rintro (_ | _) h17
           ·refine qp rfl (qk (kc rfl (kc rfl (kc rfl (kc rfl (kc rfl (kc rfl (kc rfl kn))))))) (kc rfl (kc rfl kn)) ?_)
            exact ⟨rfl,by rw [show (decide (nd.op=2 ∨ nd.op=6))=false from by (simp_all;try omega)]⟩
           ·refine qp rfl (qk (kc rfl (kc rfl (kc rfl (kc rfl (kc rfl (kc rfl (kc rfl kn))))))) (kc rfl (kc rfl kn)) ?_)
            exact ⟨rfl,by rw [show (decide (nd.op=2 ∨ nd.op=6))=true from by (simp_all;try omega)]⟩
          ·refine qp rfl (qk (kc rfl (kc rfl (kc rfl (kc rfl (kc rfl (kc rfl (kc rfl kn))))))) (kc rfl (kc rfl kn)) (sqn (ecT rfl (eskip ?_))))
           exact ⟨rfl,by rw [show (decide (nd.op=2 ∨ nd.op=6))=true from by (simp_all;try omega)]⟩
         ·refine sqn ?_
          refine ecS rfl ?_ ?_
          ·intro h18
           refine eseq (ereg (qp rfl (qp rfl (qp rfl (qp rfl (qp rfl (qp rfl (qp rfl (qp rfl (hcall rfl rfl rfl (xtor_c _ c k (left - 1) nd.ty nd.n (decide (nd.op=6)) hc.dl hK1.hk) ?_))))))))))
           rintro _ _ ⟨hq,x,ok,rfl,hx⟩
           obtain rfl:=hq.symm
           refine qp rfl (qp rfl (qp rfl (qb ?_)))
           rintro (_ | _) h19
           ·refine hal (dc (dc (dc (dc (dc (dc (dc (dc (dc (dc (dc (dc (dc (dc (dc (dc (dc (dc (dc dn rfl) rfl) rfl) rfl) rfl) rfl) rfl) rfl) rfl) rfl) rfl) rfl) rfl) rfl) rfl) rfl) rfl) rfl) rfl) (hstl rfl rfl rfl rfl (Nat.le_of_ble_eq_true rfl) (lc rfl (lc rfl (ln rfl))) (qp rfl (qk (kc rfl (kc rfl (kc rfl (kc rfl (kc rfl (kc rfl kn)))))) (kc rfl (kc rfl (kc rfl kn))) (sqn (eseq (ereg (qp rfl (qp rfl (qs rfl rfl (by decide) (qs rfl rfl (by decide) (qs rfl rfl (by decide) (qs rfl rfl (by decide) (qs rfl rfl (by decide) (qs rfl rfl (by decide) (qs rfl rfl (by decide) (qs rfl rfl (by decide) (qp rfl (qp rfl (qk (kc rfl kn) kn (sqn (eret (bqr (sqr ?_)))))))))))))))))))))))
            refine fqr rfl ?_
            have ho:nd.op=2 ∨ nd.op=6:=of_decide_eq_true (by assumption)
            have hl:leafOp nd.op=false:=by rcases ho with h | h <;> rw [h] <;> rfl
            have hb0:nd.brs=[]:=by
             have g:(decide (nd.op ≠ 4) && decide (nd.op ≠ 8) && decide (nd.brs.length ≠ 0))=false:=by assumption
             have g2:nd.op=4 ∨ nd.op=8 ∨ nd.brs.length=0:=by simpa [Decidable.or_iff_not_imp_left] using g
             exact List.eq_nil_of_length_eq_zero (by omega)
            have hhd:=head_xtorAt (ds:=c.decls) (fs:=c.funs) (n:=nd.n) (ty:=nd.ty) ho
            rw [hx] at hhd
            first
            | (have g:ok=true:=by assumption
               subst g
               exact sorts_post hl (by omega) (by omega) hb0 hhd hc1 hP)
            | (have g:ok=false:=by assumption
               subst g
               exact none_post h0 hK1 hc1 hhd)
           ·refine hal (dc (dc (dc (dc (dc (dc (dc (dc (dc (dc (dc (dc (dc (dc (dc (dc (dc (dc (dc dn rfl) rfl) rfl) rfl) rfl) rfl) rfl) rfl) rfl) rfl) rfl) rfl) rfl) rfl) rfl) rfl) rfl) rfl) rfl) (hstl rfl rfl rfl rfl (Nat.le_of_ble_eq_true rfl) (lc rfl (lc rfl (ln rfl))) (qp rfl (qk (kc rfl (kc rfl (kc rfl (kc rfl (kc rfl (kc rfl kn)))))) (kc rfl (kc rfl (kc rfl kn))) (sqn (eseq (ereg (qp rfl (qp rfl (qg rfl (qp rfl (qg rfl (hlda rfl rfl (lc rfl (lc rfl (ln rfl))) (qg rfl (qp rfl (qg rfl (qp rfl (qg rfl (qp rfl (qg rfl (qp rfl (qg rfl (qp rfl (qg rfl ?_)))))))))))))))))))))))
            refine hcall rfl rfl rfl (args_cc _ c k i0 i1 X A (left - 1) deep nd.args x.args hza (by
             have g:ok=true:=by assumption
             rw [g,if_pos rfl,xtorAt] at hx
             split at hx
             ·rename_i d hd
              split at hx
              ·have hbd:=declAt_bounds hd
               rw [declAt,if_pos hbd.1] at hd
               exact hc.xa d (List.mem_of_getElem? hd) x (List.mem_of_getElem? hx)
              ·cases hx
             ·cases hx) ⟨hd1,by have g:decide (4000 < deep)=false:=(by assumption);simp at g;omega⟩ ⟨by have g:decide (left - 1 < 0)=false:=(by assumption);simp at g;omega,by omega⟩ hK1 H1) ?_
            rintro _ S2 ⟨b,left',rfl,hP⟩
            refine qp rfl (qp rfl (qk (kc rfl kn) kn (sqn (eret (bqr (sqr (fqr rfl ?_)))))))
            have ho:nd.op=2 ∨ nd.op=6:=of_decide_eq_true (by assumption)
            have hl:leafOp nd.op=false:=by rcases ho with h | h <;> rw [h] <;> rfl
            have hb0:nd.brs=[]:=by
             have g:(decide (nd.op ≠ 4) && decide (nd.op ≠ 8) && decide (nd.brs.length ≠ 0))=false:=by assumption
             have g2:nd.op=4 ∨ nd.op=8 ∨ nd.brs.length=0:=by simpa [Decidable.or_iff_not_imp_left] using g
             exact List.eq_nil_of_length_eq_zero (by omega)
            have hhd:=head_xtorAt (ds:=c.decls) (fs:=c.funs) (n:=nd.n) (ty:=nd.ty) ho
            rw [hx] at hhd
            first
            | (have g:ok=true:=by assumption
               subst g
               exact sorts_post hl (by omega) (by omega) hb0 hhd hc1 hP)
            | (have g:ok=false:=by assumption
               subst g
               exact none_post h0 hK1 hc1 hhd)
          ·intro h18
           refine eseq ?_
           refine ejoin 123 (decide (nd.op=3 ∨ nd.op=7)) (k:=[0,3,5,6,9,58,123]) (kl:=[5,6]) (kc rfl (kc rfl (kc rfl (kc rfl (kc rfl (kc rfl (kc rfl kn))))))) (kc rfl (kc rfl kn)) ?_ ?_
           ·refine eseq (ereg (qp rfl (qb ?_)))
            rintro (_ | _) h20
            ·refine qp rfl (qk (kc rfl (kc rfl (kc rfl (kc rfl (kc rfl (kc rfl (kc rfl kn))))))) (kc rfl (kc rfl kn)) (sqn (ecF rfl (ereg (qp rfl (qb ?_))))))
             rintro (_ | _) h21
             ·refine qp rfl (qk (kc rfl (kc rfl (kc rfl (kc rfl (kc rfl (kc rfl (kc rfl kn))))))) (kc rfl (kc rfl kn)) ?_)
              exact ⟨rfl,by rw [show (decide (nd.op=3 ∨ nd.op=7))=false from by (simp_all;try omega)]⟩
             ·refine qp rfl (qk (kc rfl (kc rfl (kc rfl (kc rfl (kc rfl (kc rfl (kc rfl kn))))))) (kc rfl (kc rfl kn)) ?_)
              exact ⟨rfl,by rw [show (decide (nd.op=3 ∨ nd.op=7))=true from by (simp_all;try omega)]⟩
            ·refine qp rfl (qk (kc rfl (kc rfl (kc rfl (kc rfl (kc rfl (kc rfl (kc rfl kn))))))) (kc rfl (kc rfl kn)) (sqn (ecT rfl (eskip ?_))))
             exact ⟨rfl,by rw [show (decide (nd.op=3 ∨ nd.op=7))=true from by (simp_all;try omega)]⟩
           ·refine sqn ?_
            refine ecS rfl ?_ ?_
            ·intro h22
             refine eseq (eseq (ereg (qp rfl (qb ?_))))
             rintro (_ | _) h23
             ·refine qp rfl (qp rfl (qs rfl rfl (by decide) (qs rfl rfl (by decide) (qs rfl rfl (by decide) (qs rfl rfl (by decide) (qp rfl (qk (kc rfl (kc rfl (kc rfl (kc rfl (kc rfl kn))))) (kc rfl (kc rfl kn)) (sqn (ecT rfl (eseq (ereg (qp rfl (qk (kc rfl kn) kn (sqn (eret (sqr (bqr (sqr (fqr rfl ?_)))))))))))))))))))
              have ho:nd.op=3 ∨ nd.op=7:=of_decide_eq_true (by assumption)
              have hhd:=head_mu (ds:=c.decls) (fs:=c.funs) (n:=nd.n) (ty:=nd.ty) (decide_eq_true ho)
              exact none_post h0 hK1 hc1 (hhd.trans (if_neg (fun q=>by first | exact absurd q.1 (of_decide_eq_false (by assumption)) | exact absurd q.1 (Bool.eq_false_iff.1 (by assumption)) | exact absurd q.2 (of_decide_eq_false (by assumption)) | exact absurd q.2 (Bool.eq_false_iff.1 (by assumption)))))
             ·refine qp rfl (qp rfl (qg rfl (qp rfl (qg rfl (qp rfl (qg rfl (hcall rfl rfl rfl (number_c _ _) ?_)))))))
              rintro _ _ ⟨rfl,hq⟩
              obtain rfl:=hq.symm
              refine qb ?_
              rintro (_ | _) h24
              ·refine qg rfl (qp rfl (qp rfl (qk (kc rfl (kc rfl (kc rfl (kc rfl (kc rfl kn))))) (kc rfl (kc rfl kn)) (sqn (ecT rfl (eseq (ereg (qp rfl (qk (kc rfl kn) kn (sqn (eret (sqr (bqr (sqr (fqr rfl ?_)))))))))))))))
               have ho:nd.op=3 ∨ nd.op=7:=of_decide_eq_true (by assumption)
               have hhd:=head_mu (ds:=c.decls) (fs:=c.funs) (n:=nd.n) (ty:=nd.ty) (decide_eq_true ho)
               exact none_post h0 hK1 hc1 (hhd.trans (if_neg (fun q=>by first | exact absurd q.1 (of_decide_eq_false (by assumption)) | exact absurd q.1 (Bool.eq_false_iff.1 (by assumption)) | exact absurd q.2 (of_decide_eq_false (by assumption)) | exact absurd q.2 (Bool.eq_false_iff.1 (by assumption)))))
              ·refine qg rfl (qp rfl (qp rfl (qk (kc rfl (kc rfl (kc rfl (kc rfl (kc rfl kn))))) (kc rfl (kc rfl kn)) (sqn (ecF rfl (eskip (sqn (eseq (ereg (hlda rfl rfl (lc rfl (lc rfl (ln rfl))) (qp rfl (qp rfl (hbsl rfl rfl (lc rfl (ln rfl)) (qp rfl (qp rfl (qp rfl (hbsl rfl rfl (lc rfl (ln rfl)) (hcall rfl rfl rfl (enter_c _ i0 i1 X A [nd.n] [decide (nd.op=3)] (by simp) (by simp) hK1.ps) ?_))))))))))))))))))
               rintro _ S2 ⟨bs,ba,rfl,hE,hc2,hbs,hba⟩
               have hK2:=en_kv hK1 hE hc2
               refine qp rfl (qk (kc rfl (kc rfl (kc rfl (kc rfl (kc rfl kn))))) (kc rfl (kc rfl kn)) (sqn (eseq (ereg (qp rfl (hlda rfl rfl (lc rfl (lc rfl (ln rfl))) (qp rfl (qp rfl (qp rfl (hbsl rfl rfl (lc rfl (ln rfl)) (hcall rfl rfl rfl (sorts_c _ c k i0 i1 _ _ (left - 1) deep nd.args [2] hza ⟨hd1,by have g:decide (4000 < deep)=false:=(by assumption);simp at g;omega⟩ ⟨by have g:decide (left - 1 < 0)=false:=(by assumption);simp at g;omega,by omega⟩ hK2 H1) ?_)))))))))))
               rintro _ S2' ⟨b,left',rfl,hK2',hcv,q3,q4,q5,q6⟩
               refine qp rfl (qk (kc rfl (kc rfl kn)) kn (sqn (eseq (ereg (qp rfl (hcall rfl rfl rfl (lv_c hK1 hE hc2 hbs hba hK2' hcv (by simp)) ?_))))))
               rintro _ S3 ⟨rfl,hK3,hc3⟩
               refine qk (kc rfl kn) kn (sqn (eseq (ereg (qp rfl (qp rfl (qk (kc rfl kn) kn (sqn (eret (bqr (sqr (fqr rfl ?_)))))))))))
               have ho:nd.op=3 ∨ nd.op=7:=of_decide_eq_true (by assumption)
               have hb0:nd.brs=[]:=by
                have g:(decide (nd.op ≠ 4) && decide (nd.op ≠ 8) && decide (nd.brs.length ≠ 0))=false:=by assumption
                have g2:nd.op=4 ∨ nd.op=8 ∨ nd.brs.length=0:=by simpa [Decidable.or_iff_not_imp_left] using g
                exact List.eq_nil_of_length_eq_zero (by omega)
               have hhd:=head_mu (ds:=c.decls) (fs:=c.funs) (n:=nd.n) (ty:=nd.ty) (decide_eq_true ho)
               exact mu_post ho hb0 (hhd.trans (if_pos ⟨by assumption,by assumption⟩)) hK3 (hc1.trans hc3) q3 q4 q5 q6
            ·intro h22
             refine eseq ?_
             refine ejoin 153 (decide (nd.op=4 ∨ nd.op=8)) (k:=[0,3,5,6,9,58,153]) (kl:=[5,6]) (kc rfl (kc rfl (kc rfl (kc rfl (kc rfl (kc rfl (kc rfl kn))))))) (kc rfl (kc rfl kn)) ?_ ?_
             ·refine eseq (ereg (qp rfl (qb ?_)))
              rintro (_ | _) h25
              ·refine qp rfl (qk (kc rfl (kc rfl (kc rfl (kc rfl (kc rfl (kc rfl (kc rfl kn))))))) (kc rfl (kc rfl kn)) (sqn (ecF rfl (ereg (qp rfl (qb ?_))))))
               rintro (_ | _) h26
               ·refine qp rfl (qk (kc rfl (kc rfl (kc rfl (kc rfl (kc rfl (kc rfl (kc rfl kn))))))) (kc rfl (kc rfl kn)) ?_)
                exact ⟨rfl,by rw [show (decide (nd.op=4 ∨ nd.op=8))=false from by (simp_all;try omega)]⟩
               ·refine qp rfl (qk (kc rfl (kc rfl (kc rfl (kc rfl (kc rfl (kc rfl (kc rfl kn))))))) (kc rfl (kc rfl kn)) ?_)
                exact ⟨rfl,by rw [show (decide (nd.op=4 ∨ nd.op=8))=true from by (simp_all;try omega)]⟩
              ·refine qp rfl (qk (kc rfl (kc rfl (kc rfl (kc rfl (kc rfl (kc rfl (kc rfl kn))))))) (kc rfl (kc rfl kn)) (sqn (ecT rfl (eskip ?_))))
               exact ⟨rfl,by rw [show (decide (nd.op=4 ∨ nd.op=8))=true from by (simp_all;try omega)]⟩
             ·refine sqn ?_
              refine ecS rfl ?_ ?_
              ·intro h27
               refine eseq (ereg (qp rfl (qp rfl (qp rfl (qb ?_)))))
               rintro (_ | _) h28
               ·refine qp rfl (qs rfl rfl (by decide) (qs rfl rfl (by decide) (qs rfl rfl (by decide) (qs rfl rfl (by decide) (qp rfl (qp rfl (qs rfl rfl (by decide) (qs rfl rfl (by decide) (qs rfl rfl (by decide) (qp rfl (qp rfl (qs rfl rfl (by decide) (qp rfl (qp rfl (qs rfl rfl (by decide) (qs rfl rfl (by decide) (qs rfl rfl (by decide) (qs rfl rfl (by decide) (qs rfl rfl (by decide) (qs rfl rfl (by decide) (qs rfl rfl (by decide) (qs rfl rfl (by decide) (qs rfl rfl (by decide) ?_)))))))))))))))))))))))
                refine qs rfl rfl (by decide) (qs rfl rfl (by decide) (qs rfl rfl (by decide) (qs rfl rfl (by decide) (qs rfl rfl (by decide) (qp rfl (qp rfl (qs rfl rfl (by decide) (qs rfl rfl (by decide) (qs rfl rfl (by decide) (qs rfl rfl (by decide) (qs rfl rfl (by decide) (qp rfl (qp rfl (qk (kc rfl kn) kn (sqn (eret (bqr (sqr (fqr rfl ?_)))))))))))))))))))
                have ho:nd.op=4 ∨ nd.op=8:=of_decide_eq_true (by assumption)
                have hhd:=head_match (op:=nd.op) (ds:=c.decls) (fs:=c.funs) (n:=nd.n) (ty:=nd.ty) (by rcases ho with h | h <;> simp [h])
                first
                | (rw [hda] at hhd
                   exact brs_post ho ha (hhd.trans (if_pos ⟨by have g:(d.codata == decide (nd.op=4))=true:=(by assumption);simpa using g,of_decide_eq_true (by assumption)⟩)) hc1 hP)
                | (refine no_post h0 hK1 hc1 fun h=>?_
                   obtain ⟨want,xs,e1,e2,_⟩:=vN_some h.1
                   rw [hhd] at e1
                   split at e1
                   ·rename_i d' hd'
                    split at e1
                    ·rename_i q
                     simp only [Option.some.injEq,Prod.mk.injEq] at e1
                     obtain ⟨rfl,rfl⟩:=e1
                     have hbd:=declAt_bounds hd'
                     first
                     | exact absurd q.2 (of_decide_eq_false (by assumption))
                     | (have g:decide (((nd.args.map Node.enc).length:Int)=0)=false:=(by assumption);have:=vNs_len e2
                        simp at this
                        simp [this] at g;done)
                     | (have g:decide (1 ≤ nd.ty)=false:=(by assumption);simp at g;omega)
                     | (have g:typedOk c.decls nd.ty=false:=(by assumption);simp [typedOk] at g;omega)
                     | (have g:(d.codata == decide (nd.op=4))=false:=(by assumption);rw [hda] at hd'
                        cases hd'
                        rw [q.1] at g
                        simp at g)
                    ·cases e1
                   ·cases e1)
               ·refine qp rfl (qg rfl (qp rfl (qg rfl (qp rfl (qg rfl (qp rfl (qg rfl (qp rfl (qb ?_)))))))))
                rintro (_ | _) h29
                ·refine qp rfl (qp rfl (qs rfl rfl (by decide) (qs rfl rfl (by decide) (qs rfl rfl (by decide) (qp rfl (qp rfl (qs rfl rfl (by decide) (qp rfl (qp rfl (qs rfl rfl (by decide) (qs rfl rfl (by decide) (qs rfl rfl (by decide) (qs rfl rfl (by decide) (qs rfl rfl (by decide) (qs rfl rfl (by decide) (qs rfl rfl (by decide) (qs rfl rfl (by decide) (qs rfl rfl (by decide) (qs rfl rfl (by decide) (qs rfl rfl (by decide) (qs rfl rfl (by decide) (qs rfl rfl (by decide) (qs rfl rfl (by decide) ?_)))))))))))))))))))))))
                 refine qp rfl (qp rfl (qs rfl rfl (by decide) (qs rfl rfl (by decide) (qs rfl rfl (by decide) (qs rfl rfl (by decide) (qs rfl rfl (by decide) (qp rfl (qp rfl (qk (kc rfl kn) kn (sqn (eret (bqr (sqr (fqr rfl ?_))))))))))))))
                 have ho:nd.op=4 ∨ nd.op=8:=of_decide_eq_true (by assumption)
                 have hhd:=head_match (op:=nd.op) (ds:=c.decls) (fs:=c.funs) (n:=nd.n) (ty:=nd.ty) (by rcases ho with h | h <;> simp [h])
                 first
                 | (rw [hda] at hhd
                    exact brs_post ho ha (hhd.trans (if_pos ⟨by have g:(d.codata == decide (nd.op=4))=true:=(by assumption);simpa using g,of_decide_eq_true (by assumption)⟩)) hc1 hP)
                 | (refine no_post h0 hK1 hc1 fun h=>?_
                    obtain ⟨want,xs,e1,e2,_⟩:=vN_some h.1
                    rw [hhd] at e1
                    split at e1
                    ·rename_i d' hd'
                     split at e1
                     ·rename_i q
                      simp only [Option.some.injEq,Prod.mk.injEq] at e1
                      obtain ⟨rfl,rfl⟩:=e1
                      have hbd:=declAt_bounds hd'
                      first
                      | exact absurd q.2 (of_decide_eq_false (by assumption))
                      | (have g:decide (((nd.args.map Node.enc).length:Int)=0)=false:=(by assumption);have:=vNs_len e2
                         simp at this
                         simp [this] at g;done)
                      | (have g:decide (1 ≤ nd.ty)=false:=(by assumption);simp at g;omega)
                      | (have g:typedOk c.decls nd.ty=false:=(by assumption);simp [typedOk] at g;omega)
                      | (have g:(d.codata == decide (nd.op=4))=false:=(by assumption);rw [hda] at hd'
                         cases hd'
                         rw [q.1] at g
                         simp at g)
                     ·cases e1
                    ·cases e1)
                ·refine qp rfl (qp rfl (qg rfl (qp rfl (qg rfl (qp rfl (qg rfl (qp rfl (qb ?_))))))))
                 rintro (_ | _) h30
                 ·refine qp rfl (qp rfl (qs rfl rfl (by decide) (qp rfl (qp rfl (qs rfl rfl (by decide) (qs rfl rfl (by decide) (qs rfl rfl (by decide) (qs rfl rfl (by decide) (qs rfl rfl (by decide) (qs rfl rfl (by decide) (qs rfl rfl (by decide) (qs rfl rfl (by decide) (qs rfl rfl (by decide) (qs rfl rfl (by decide) (qs rfl rfl (by decide) (qs rfl rfl (by decide) (qs rfl rfl (by decide) (qs rfl rfl (by decide) (qp rfl (qp rfl (qs rfl rfl (by decide) (qs rfl rfl (by decide) (qs rfl rfl (by decide) ?_)))))))))))))))))))))))
                  refine qs rfl rfl (by decide) (qs rfl rfl (by decide) (qp rfl (qp rfl (qk (kc rfl kn) kn (sqn (eret (bqr (sqr (fqr rfl ?_)))))))))
                  have ho:nd.op=4 ∨ nd.op=8:=of_decide_eq_true (by assumption)
                  have hhd:=head_match (op:=nd.op) (ds:=c.decls) (fs:=c.funs) (n:=nd.n) (ty:=nd.ty) (by rcases ho with h | h <;> simp [h])
                  first
                  | (rw [hda] at hhd
                     exact brs_post ho ha (hhd.trans (if_pos ⟨by have g:(d.codata == decide (nd.op=4))=true:=(by assumption);simpa using g,of_decide_eq_true (by assumption)⟩)) hc1 hP)
                  | (refine no_post h0 hK1 hc1 fun h=>?_
                     obtain ⟨want,xs,e1,e2,_⟩:=vN_some h.1
                     rw [hhd] at e1
                     split at e1
                     ·rename_i d' hd'
                      split at e1
                      ·rename_i q
                       simp only [Option.some.injEq,Prod.mk.injEq] at e1
                       obtain ⟨rfl,rfl⟩:=e1
                       have hbd:=declAt_bounds hd'
                       first
                       | exact absurd q.2 (of_decide_eq_false (by assumption))
                       | (have g:decide (((nd.args.map Node.enc).length:Int)=0)=false:=(by assumption);have:=vNs_len e2
                          simp at this
                          simp [this] at g;done)
                       | (have g:decide (1 ≤ nd.ty)=false:=(by assumption);simp at g;omega)
                       | (have g:typedOk c.decls nd.ty=false:=(by assumption);simp [typedOk] at g;omega)
                       | (have g:(d.codata == decide (nd.op=4))=false:=(by assumption);rw [hda] at hd'
                          cases hd'
                          rw [q.1] at g
                          simp at g)
                      ·cases e1
                     ·cases e1)
                 ·refine qp rfl (qp rfl (qg rfl (qp rfl (qb ?_))))
                  rintro (_ | _) h31
                  ·refine qp rfl (qp rfl (qs rfl rfl (by decide) (qs rfl rfl (by decide) (qs rfl rfl (by decide) (qs rfl rfl (by decide) (qs rfl rfl (by decide) (qs rfl rfl (by decide) (qs rfl rfl (by decide) (qs rfl rfl (by decide) (qs rfl rfl (by decide) (qs rfl rfl (by decide) (qs rfl rfl (by decide) (qs rfl rfl (by decide) (qs rfl rfl (by decide) (qs rfl rfl (by decide) (qp rfl (qp rfl (qs rfl rfl (by decide) (qs rfl rfl (by decide) (qs rfl rfl (by decide) (qs rfl rfl (by decide) (qs rfl rfl (by decide) (qp rfl ?_)))))))))))))))))))))))
                   refine qp rfl (qk (kc rfl kn) kn (sqn (eret (bqr (sqr (fqr rfl ?_))))))
                   have ho:nd.op=4 ∨ nd.op=8:=of_decide_eq_true (by assumption)
                   have hhd:=head_match (op:=nd.op) (ds:=c.decls) (fs:=c.funs) (n:=nd.n) (ty:=nd.ty) (by rcases ho with h | h <;> simp [h])
                   first
                   | (rw [hda] at hhd
                      exact brs_post ho ha (hhd.trans (if_pos ⟨by have g:(d.codata == decide (nd.op=4))=true:=(by assumption);simpa using g,of_decide_eq_true (by assumption)⟩)) hc1 hP)
                   | (refine no_post h0 hK1 hc1 fun h=>?_
                      obtain ⟨want,xs,e1,e2,_⟩:=vN_some h.1
                      rw [hhd] at e1
                      split at e1
                      ·rename_i d' hd'
                       split at e1
                       ·rename_i q
                        simp only [Option.some.injEq,Prod.mk.injEq] at e1
                        obtain ⟨rfl,rfl⟩:=e1
                        have hbd:=declAt_bounds hd'
                        first
                        | exact absurd q.2 (of_decide_eq_false (by assumption))
                        | (have g:decide (((nd.args.map Node.enc).length:Int)=0)=false:=(by assumption);have:=vNs_len e2
                           simp at this
                           simp [this] at g;done)
                        | (have g:decide (1 ≤ nd.ty)=false:=(by assumption);simp at g;omega)
                        | (have g:typedOk c.decls nd.ty=false:=(by assumption);simp [typedOk] at g;omega)
                        | (have g:(d.codata == decide (nd.op=4))=false:=(by assumption);rw [hda] at hd'
                           cases hd'
                           rw [q.1] at g
                           simp at g)
                       ·cases e1
                      ·cases e1)
                  ·refine qp rfl (qp rfl (qg rfl (qp rfl (qg rfl (qp rfl (qg rfl (qp rfl (qg rfl (hldo rfl hK1.hk rfl ?_)))))))))
                   refine qg rfl (qp rfl (qg rfl (qp rfl (qg rfl (hsub rfl rfl (i64w (by have g1:decide (1 ≤ nd.ty)=true:=(by assumption);have g2:typedOk c.decls nd.ty=true:=(by assumption);have g3:=hc.dl;simp [typedOk] at g1 g2;omega)) (qg rfl ?_))))))
                   have g1:decide (1 ≤ nd.ty)=true:=by assumption
                   have g2:typedOk c.decls nd.ty=true:=by assumption
                   have g3:decide (((nd.args.map Node.enc).length:Int)=0)=true:=by assumption
                   have ha:nd.args=[]:=by simp at g3;first | exact g3 | exact List.eq_nil_of_length_eq_zero (by omega)
                   have hty:1 ≤ nd.ty ∧ nd.ty ≤ c.decls.length:=by simp [typedOk] at g1 g2;omega
                   obtain ⟨d,hd⟩:=get_of_lt (l:=c.decls) (i:=(nd.ty - 1).toNat) (by omega)
                   have hda:declAt c.decls nd.ty=some d:=by rw [declAt,if_pos hty.1];exact hd
                   refine hia (y:=Decl.enc d) rfl rfl (by omega) (by rw [List.getElem?_map,hd];rfl) rfl ?_
                   refine qg rfl (qp rfl (qg rfl (qp rfl (qg rfl (qp rfl (qg rfl (qp rfl (qg rfl (qp rfl (qg rfl (qp rfl (qb ?_))))))))))))
                   rintro (_ | _) h32
                   ·refine qp rfl (qp rfl (qs rfl rfl (by decide) (qs rfl rfl (by decide) (qs rfl rfl (by decide) (qs rfl rfl (by decide) (qs rfl rfl (by decide) (qp rfl (qp rfl (qk (kc rfl kn) kn (sqn (eret (bqr (sqr (fqr rfl ?_))))))))))))))
                    have ho:nd.op=4 ∨ nd.op=8:=of_decide_eq_true (by assumption)
                    have hhd:=head_match (op:=nd.op) (ds:=c.decls) (fs:=c.funs) (n:=nd.n) (ty:=nd.ty) (by rcases ho with h | h <;> simp [h])
                    first
                    | (rw [hda] at hhd
                       exact brs_post ho ha (hhd.trans (if_pos ⟨by have g:(d.codata == decide (nd.op=4))=true:=(by assumption);simpa using g,of_decide_eq_true (by assumption)⟩)) hc1 hP)
                    | (refine no_post h0 hK1 hc1 fun h=>?_
                       obtain ⟨want,xs,e1,e2,_⟩:=vN_some h.1
                       rw [hhd] at e1
                       split at e1
                       ·rename_i d' hd'
                        split at e1
                        ·rename_i q
                         simp only [Option.some.injEq,Prod.mk.injEq] at e1
                         obtain ⟨rfl,rfl⟩:=e1
                         have hbd:=declAt_bounds hd'
                         first
                         | exact absurd q.2 (of_decide_eq_false (by assumption))
                         | (have g:decide (((nd.args.map Node.enc).length:Int)=0)=false:=(by assumption);have:=vNs_len e2
                            simp at this
                            simp [this] at g;done)
                         | (have g:decide (1 ≤ nd.ty)=false:=(by assumption);simp at g;omega)
                         | (have g:typedOk c.decls nd.ty=false:=(by assumption);simp [typedOk] at g;omega)
                         | (have g:(d.codata == decide (nd.op=4))=false:=(by assumption);rw [hda] at hd'
                            cases hd'
                            rw [q.1] at g
                            simp at g)
                        ·cases e1
                       ·cases e1)
                   ·refine qp rfl (qp rfl (qg rfl (qp rfl (qg rfl (hlda rfl rfl (lc rfl (lc rfl (ln rfl))) (qg rfl (hlda rfl rfl (lc rfl (lc rfl (lc rfl (lc rfl (lc rfl (ln rfl)))))) (qg rfl (qp rfl (qg rfl (hcall rfl rfl rfl (branches_c _ c k i0 i1 X A (left - 1) deep nd d hc.dl hty hd (hc.xa d (List.mem_of_getElem? hd)) hz ⟨hd1,by have g:decide (4000 < deep)=false:=(by assumption);simp at g;omega⟩ ⟨by have g:decide (left - 1 < 0)=false:=(by assumption);simp at g;omega,by omega⟩ hK1 H2) ?_)))))))))))
                    rintro _ S2 ⟨b,left',rfl,hP⟩
                    refine qp rfl (qp rfl (qk (kc rfl kn) kn (sqn (eret (bqr (sqr (fqr rfl ?_)))))))
                    have ho:nd.op=4 ∨ nd.op=8:=of_decide_eq_true (by assumption)
                    have hhd:=head_match (op:=nd.op) (ds:=c.decls) (fs:=c.funs) (n:=nd.n) (ty:=nd.ty) (by rcases ho with h | h <;> simp [h])
                    first
                    | (rw [hda] at hhd
                       exact brs_post ho ha (hhd.trans (if_pos ⟨by have g:(d.codata == decide (nd.op=4))=true:=(by assumption);simpa using g,of_decide_eq_true (by assumption)⟩)) hc1 hP)
                    | (refine no_post h0 hK1 hc1 fun h=>?_
                       obtain ⟨want,xs,e1,e2,_⟩:=vN_some h.1
                       rw [hhd] at e1
                       split at e1
                       ·rename_i d' hd'
                        split at e1
                        ·rename_i q
                         simp only [Option.some.injEq,Prod.mk.injEq] at e1
                         obtain ⟨rfl,rfl⟩:=e1
                         have hbd:=declAt_bounds hd'
                         first
                         | exact absurd q.2 (of_decide_eq_false (by assumption))
                         | (have g:decide (((nd.args.map Node.enc).length:Int)=0)=false:=(by assumption);have:=vNs_len e2
                            simp at this
                            simp [this] at g;done)
                         | (have g:decide (1 ≤ nd.ty)=false:=(by assumption);simp at g;omega)
                         | (have g:typedOk c.decls nd.ty=false:=(by assumption);simp [typedOk] at g;omega)
                         | (have g:(d.codata == decide (nd.op=4))=false:=(by assumption);rw [hda] at hd'
                            cases hd'
                            rw [q.1] at g
                            simp at g)
                        ·cases e1
                       ·cases e1)
              ·intro h27
               refine eseq (ereg (qp rfl (qb ?_)))
               rintro (_ | _) h33
               ·refine qp rfl (qk (kc rfl (kc rfl (kc rfl (kc rfl (kc rfl (kc rfl (kc rfl kn))))))) (kc rfl (kc rfl kn)) (sqn (ecF rfl (eseq (ereg (qp rfl (qb ?_)))))))
                rintro (_ | _) h34
                ·refine qp rfl (qk (kc rfl (kc rfl (kc rfl (kc rfl (kc rfl (kc rfl kn)))))) (kc rfl (kc rfl kn)) (sqn (ecF rfl (eseq (ereg (qp rfl (qb ?_)))))))
                 rintro (_ | _) h35
                 ·refine qp rfl (qk (kc rfl (kc rfl (kc rfl (kc rfl (kc rfl (kc rfl kn)))))) (kc rfl (kc rfl kn)) (sqn (ecF rfl (eseq (ereg (qp rfl (qb ?_)))))))
                  rintro (_ | _) h36
                  ·refine qp rfl (qk (kc rfl (kc rfl (kc rfl (kc rfl (kc rfl (kc rfl kn)))))) (kc rfl (kc rfl kn)) (sqn (ecF rfl (eseq (ereg (qp rfl (qb ?_)))))))
                   rintro (_ | _) h37
                   ·refine qp rfl (qk (kc rfl (kc rfl (kc rfl (kc rfl (kc rfl (kc rfl kn)))))) (kc rfl (kc rfl kn)) (sqn (ecF rfl (eseq (ereg (qp rfl (qb ?_)))))))
                    rintro (_ | _) h38
                    ·refine qp rfl (qk (kc rfl (kc rfl (kc rfl (kc rfl (kc rfl kn))))) (kc rfl (kc rfl kn)) (sqn (ecF rfl (eskip (bqn (sqn (eseq (ereg (qp rfl (qk (kc rfl kn) kn (sqn (eret (fqr rfl ?_)))))))))))))
                     have hhd:headOf c.decls c.funs nd.op nd.n nd.ty=none:=head_no (by assumption) (by assumption) (by assumption) (by assumption) (by simp at *;omega) (by simp at *;omega) (by assumption) (by assumption) (by assumption) (by assumption) (by assumption) (by assumption)
                     exact none_post h0 hK1 hc1 hhd
                    ·refine qp rfl (qk (kc rfl (kc rfl (kc rfl (kc rfl (kc rfl kn))))) (kc rfl (kc rfl kn)) (sqn (ecT rfl (eseq (ereg (qp rfl (qp rfl (qp rfl (qb ?_)))))))))
                     rintro (_ | _) h39
                     ·refine qp rfl (qs rfl rfl (by decide) (qs rfl rfl (by decide) (qs rfl rfl (by decide) (qp rfl (qp rfl (qs rfl rfl (by decide) (qs rfl rfl (by decide) (qs rfl rfl (by decide) (qs rfl rfl (by decide) (qs rfl rfl (by decide) (qs rfl rfl (by decide) (qs rfl rfl (by decide) (qp rfl (qp rfl (qk (kc rfl kn) kn (sqn (eret (bqr (sqr (fqr rfl ?_))))))))))))))))))))
                      have ho:nd.op=14:=of_decide_eq_true (by assumption)
                      have hb0:nd.brs=[]:=by
                       have g:(decide (nd.op ≠ 4) && decide (nd.op ≠ 8) && decide (nd.brs.length ≠ 0))=false:=by assumption
                       have g2:nd.op=4 ∨ nd.op=8 ∨ nd.brs.length=0:=by simpa [Decidable.or_iff_not_imp_left] using g
                       exact List.eq_nil_of_length_eq_zero (by omega)
                      have hhd:=head_done (ds:=c.decls) (fs:=c.funs) (n:=nd.n) (ty:=nd.ty) (decide_eq_true ho)
                      first
                      | exact sorts_post (want:=[0]) (by rw [ho];rfl) (by omega) (by omega) hb0 (hhd.trans (if_pos ⟨of_decide_eq_true (by assumption),of_decide_eq_true (by assumption)⟩)) hc1 hP
                      | exact none_post h0 hK1 hc1 (hhd.trans (if_neg (fun q=>by first | exact absurd q.1 (of_decide_eq_false (by assumption)) | exact absurd q.1 (Bool.eq_false_iff.1 (by assumption)) | exact absurd q.2 (of_decide_eq_false (by assumption)) | exact absurd q.2 (Bool.eq_false_iff.1 (by assumption)))))
                     ·refine qp rfl (qg rfl (qp rfl (qg rfl (qp rfl (qg rfl (qp rfl (qb ?_)))))))
                      rintro (_ | _) h40
                      ·refine qp rfl (qp rfl (qs rfl rfl (by decide) (qs rfl rfl (by decide) (qs rfl rfl (by decide) (qs rfl rfl (by decide) (qs rfl rfl (by decide) (qs rfl rfl (by decide) (qs rfl rfl (by decide) (qp rfl (qp rfl (qk (kc rfl kn) kn (sqn (eret (bqr (sqr (fqr rfl ?_))))))))))))))))
                       have ho:nd.op=14:=of_decide_eq_true (by assumption)
                       have hb0:nd.brs=[]:=by
                        have g:(decide (nd.op ≠ 4) && decide (nd.op ≠ 8) && decide (nd.brs.length ≠ 0))=false:=by assumption
                        have g2:nd.op=4 ∨ nd.op=8 ∨ nd.brs.length=0:=by simpa [Decidable.or_iff_not_imp_left] using g
                        exact List.eq_nil_of_length_eq_zero (by omega)
                       have hhd:=head_done (ds:=c.decls) (fs:=c.funs) (n:=nd.n) (ty:=nd.ty) (decide_eq_true ho)
                       first
                       | exact sorts_post (want:=[0]) (by rw [ho];rfl) (by omega) (by omega) hb0 (hhd.trans (if_pos ⟨of_decide_eq_true (by assumption),of_decide_eq_true (by assumption)⟩)) hc1 hP
                       | exact none_post h0 hK1 hc1 (hhd.trans (if_neg (fun q=>by first | exact absurd q.1 (of_decide_eq_false (by assumption)) | exact absurd q.1 (Bool.eq_false_iff.1 (by assumption)) | exact absurd q.2 (of_decide_eq_false (by assumption)) | exact absurd q.2 (Bool.eq_false_iff.1 (by assumption)))))
                      ·refine qp rfl (qp rfl (qg rfl (qp rfl (qg rfl (hlda rfl rfl (lc rfl (lc rfl (ln rfl))) (qg rfl (qp rfl (qg rfl (qp rfl (qg rfl (qp rfl (qg rfl (hbsl rfl rfl (lc rfl (ln rfl)) (qg rfl (hcall rfl rfl rfl (sorts_c _ c k i0 i1 X A (left - 1) deep nd.args [0] hza ⟨hd1,by have g:decide (4000 < deep)=false:=(by assumption);simp at g;omega⟩ ⟨by have g:decide (left - 1 < 0)=false:=(by assumption);simp at g;omega,by omega⟩ hK1 H1) ?_)))))))))))))))
                       rintro _ S2 ⟨b,left',rfl,hP⟩
                       refine qp rfl (qp rfl (qk (kc rfl kn) kn (sqn (eret (bqr (sqr (fqr rfl ?_)))))))
                       have ho:nd.op=14:=of_decide_eq_true (by assumption)
                       have hb0:nd.brs=[]:=by
                        have g:(decide (nd.op ≠ 4) && decide (nd.op ≠ 8) && decide (nd.brs.length ≠ 0))=false:=by assumption
                        have g2:nd.op=4 ∨ nd.op=8 ∨ nd.brs.length=0:=by simpa [Decidable.or_iff_not_imp_left] using g
                        exact List.eq_nil_of_length_eq_zero (by omega)
                       have hhd:=head_done (ds:=c.decls) (fs:=c.funs) (n:=nd.n) (ty:=nd.ty) (decide_eq_true ho)
                       first
                       | exact sorts_post (want:=[0]) (by rw [ho];rfl) (by omega) (by omega) hb0 (hhd.trans (if_pos ⟨of_decide_eq_true (by assumption),of_decide_eq_true (by assumption)⟩)) hc1 hP
                       | exact none_post h0 hK1 hc1 (hhd.trans (if_neg (fun q=>by first | exact absurd q.1 (of_decide_eq_false (by assumption)) | exact absurd q.1 (Bool.eq_false_iff.1 (by assumption)) | exact absurd q.2 (of_decide_eq_false (by assumption)) | exact absurd q.2 (Bool.eq_false_iff.1 (by assumption)))))
                   ·refine qp rfl (qk (kc rfl (kc rfl (kc rfl (kc rfl (kc rfl (kc rfl kn)))))) (kc rfl (kc rfl kn)) (sqn (ecT rfl (eseq (ereg (qp rfl (qp rfl (qp rfl (qb ?_)))))))))
                    rintro (_ | _) h41
                    ·refine qp rfl (qs rfl rfl (by decide) (qs rfl rfl (by decide) (qs rfl rfl (by decide) (qp rfl (qp rfl (qs rfl rfl (by decide) (qs rfl rfl (by decide) (qs rfl rfl (by decide) (qs rfl rfl (by decide) (qs rfl rfl (by decide) (qs rfl rfl (by decide) (qs rfl rfl (by decide) (qs rfl rfl (by decide) (qp rfl (qp rfl (qs rfl rfl (by decide) (qs rfl rfl (by decide) (qs rfl rfl (by decide) (qs rfl rfl (by decide) (qs rfl rfl (by decide) (qs rfl rfl (by decide) (qs rfl rfl (by decide) (qs rfl rfl (by decide) ?_)))))))))))))))))))))))
                     refine qs rfl rfl (by decide) (qs rfl rfl (by decide) (qs rfl rfl (by decide) (qs rfl rfl (by decide) (qs rfl rfl (by decide) (qs rfl rfl (by decide) (qs rfl rfl (by decide) (qp rfl (qp rfl (qk (kc rfl kn) kn (sqn (eret (bqr (sqr (fqr rfl ?_))))))))))))))
                     have ho:nd.op=13:=of_decide_eq_true (by assumption)
                     have hb0:nd.brs=[]:=by
                      have g:(decide (nd.op ≠ 4) && decide (nd.op ≠ 8) && decide (nd.brs.length ≠ 0))=false:=by assumption
                      have g2:nd.op=4 ∨ nd.op=8 ∨ nd.brs.length=0:=by simpa [Decidable.or_iff_not_imp_left] using g
                      exact List.eq_nil_of_length_eq_zero (by omega)
                     have hhd:=head_call (ds:=c.decls) (fs:=c.funs) (n:=nd.n) (ty:=nd.ty) (decide_eq_true ho)
                     first
                     | exact sorts_post (want:=g.params.map fun (a:Arg)=>sideOf a.co) (by rw [ho];rfl) (by omega) (by omega) hb0 ((hhd.trans (if_pos ⟨of_decide_eq_true (by assumption),of_decide_eq_true (by assumption)⟩)).trans (by rw [hg];rfl)) hc1 hP
                     | exact none_post h0 hK1 hc1 (hhd.trans (if_neg (fun q=>by first | exact absurd q.1 (of_decide_eq_false (by assumption)) | exact absurd q.1 (Bool.eq_false_iff.1 (by assumption)) | exact absurd q.2 (of_decide_eq_false (by assumption)) | exact absurd q.2 (Bool.eq_false_iff.1 (by assumption)))))
                     | (refine none_post h0 hK1 hc1 ?_
                        have q:decide (nd.n < ((c.funs.map CFun.enc).length:Int))=false:=by assumption
                        have q2:decide (0 ≤ nd.n)=true:=by assumption
                        rw [hhd,if_pos ⟨of_decide_eq_true (by assumption),of_decide_eq_true q2⟩,List.getElem?_eq_none (by simp at q q2;omega)]
                        rfl)
                    ·refine qp rfl (qg rfl (qp rfl (qg rfl (qp rfl (qg rfl (qp rfl (qb ?_)))))))
                     rintro (_ | _) h42
                     ·refine qp rfl (qp rfl (qs rfl rfl (by decide) (qs rfl rfl (by decide) (qs rfl rfl (by decide) (qs rfl rfl (by decide) (qs rfl rfl (by decide) (qs rfl rfl (by decide) (qs rfl rfl (by decide) (qs rfl rfl (by decide) (qp rfl (qp rfl (qs rfl rfl (by decide) (qs rfl rfl (by decide) (qs rfl rfl (by decide) (qs rfl rfl (by decide) (qs rfl rfl (by decide) (qs rfl rfl (by decide) (qs rfl rfl (by decide) (qs rfl rfl (by decide) (qs rfl rfl (by decide) (qs rfl rfl (by decide) (qs rfl rfl (by decide) (qs rfl rfl (by decide) ?_)))))))))))))))))))))))
                      refine qs rfl rfl (by decide) (qs rfl rfl (by decide) (qs rfl rfl (by decide) (qp rfl (qp rfl (qk (kc rfl kn) kn (sqn (eret (bqr (sqr (fqr rfl ?_))))))))))
                      have ho:nd.op=13:=of_decide_eq_true (by assumption)
                      have hb0:nd.brs=[]:=by
                       have g:(decide (nd.op ≠ 4) && decide (nd.op ≠ 8) && decide (nd.brs.length ≠ 0))=false:=by assumption
                       have g2:nd.op=4 ∨ nd.op=8 ∨ nd.brs.length=0:=by simpa [Decidable.or_iff_not_imp_left] using g
                       exact List.eq_nil_of_length_eq_zero (by omega)
                      have hhd:=head_call (ds:=c.decls) (fs:=c.funs) (n:=nd.n) (ty:=nd.ty) (decide_eq_true ho)
                      first
                      | exact sorts_post (want:=g.params.map fun (a:Arg)=>sideOf a.co) (by rw [ho];rfl) (by omega) (by omega) hb0 ((hhd.trans (if_pos ⟨of_decide_eq_true (by assumption),of_decide_eq_true (by assumption)⟩)).trans (by rw [hg];rfl)) hc1 hP
                      | exact none_post h0 hK1 hc1 (hhd.trans (if_neg (fun q=>by first | exact absurd q.1 (of_decide_eq_false (by assumption)) | exact absurd q.1 (Bool.eq_false_iff.1 (by assumption)) | exact absurd q.2 (of_decide_eq_false (by assumption)) | exact absurd q.2 (Bool.eq_false_iff.1 (by assumption)))))
                      | (refine none_post h0 hK1 hc1 ?_
                         have q:decide (nd.n < ((c.funs.map CFun.enc).length:Int))=false:=by assumption
                         have q2:decide (0 ≤ nd.n)=true:=by assumption
                         rw [hhd,if_pos ⟨of_decide_eq_true (by assumption),of_decide_eq_true q2⟩,List.getElem?_eq_none (by simp at q q2;omega)]
                         rfl)
                     ·refine qp rfl (qp rfl (qg rfl (qp rfl (qg rfl (qp rfl (qg rfl (qp rfl (qg rfl (qp rfl (qg rfl (qp rfl (qg rfl (hldo rfl hK1.hk rfl ?_)))))))))))))
                      refine qg rfl (qp rfl (qg rfl (qp rfl (qb ?_))))
                      rintro (_ | _) h43
                      ·refine qp rfl (qp rfl (qs rfl rfl (by decide) (qs rfl rfl (by decide) (qs rfl rfl (by decide) (qs rfl rfl (by decide) (qs rfl rfl (by decide) (qs rfl rfl (by decide) (qs rfl rfl (by decide) (qs rfl rfl (by decide) (qs rfl rfl (by decide) (qs rfl rfl (by decide) (qs rfl rfl (by decide) (qs rfl rfl (by decide) (qs rfl rfl (by decide) (qs rfl rfl (by decide) (qs rfl rfl (by decide) (qp rfl (qp rfl (qk (kc rfl kn) kn (sqn (eret (bqr (sqr ?_)))))))))))))))))))))))
                       refine fqr rfl ?_
                       have ho:nd.op=13:=of_decide_eq_true (by assumption)
                       have hb0:nd.brs=[]:=by
                        have g:(decide (nd.op ≠ 4) && decide (nd.op ≠ 8) && decide (nd.brs.length ≠ 0))=false:=by assumption
                        have g2:nd.op=4 ∨ nd.op=8 ∨ nd.brs.length=0:=by simpa [Decidable.or_iff_not_imp_left] using g
                        exact List.eq_nil_of_length_eq_zero (by omega)
                       have hhd:=head_call (ds:=c.decls) (fs:=c.funs) (n:=nd.n) (ty:=nd.ty) (decide_eq_true ho)
                       first
                       | exact sorts_post (want:=g.params.map fun (a:Arg)=>sideOf a.co) (by rw [ho];rfl) (by omega) (by omega) hb0 ((hhd.trans (if_pos ⟨of_decide_eq_true (by assumption),of_decide_eq_true (by assumption)⟩)).trans (by rw [hg];rfl)) hc1 hP
                       | exact none_post h0 hK1 hc1 (hhd.trans (if_neg (fun q=>by first | exact absurd q.1 (of_decide_eq_false (by assumption)) | exact absurd q.1 (Bool.eq_false_iff.1 (by assumption)) | exact absurd q.2 (of_decide_eq_false (by assumption)) | exact absurd q.2 (Bool.eq_false_iff.1 (by assumption)))))
                       | (refine none_post h0 hK1 hc1 ?_
                          have q:decide (nd.n < ((c.funs.map CFun.enc).length:Int))=false:=by assumption
                          have q2:decide (0 ≤ nd.n)=true:=by assumption
                          rw [hhd,if_pos ⟨of_decide_eq_true (by assumption),of_decide_eq_true q2⟩,List.getElem?_eq_none (by simp at q q2;omega)]
                          rfl)
                      ·refine qp rfl (qp rfl (qg rfl (qp rfl (qg rfl (hlda rfl rfl (lc rfl (lc rfl (ln rfl))) (qg rfl (qp rfl (qg rfl (qp rfl (qg rfl (qp rfl (qg rfl (qp rfl (qg rfl (qp rfl (qg rfl (hldo rfl hK1.hk rfl ?_)))))))))))))))))
                       refine qg rfl (qp rfl (qg rfl (qp rfl (qg rfl ?_))))
                       obtain ⟨g,hg⟩:=get_of_lt (l:=c.funs) (i:=nd.n.toNat) (by simp at *;omega)
                       refine hia (y:=.agg (Str g.name :: encArgs g.params :: ints g.vars :: g.body.cs)) rfl rfl (by simp at *;omega) (by rw [List.getElem?_map,hg];simp [CFun.enc_eq]) rfl ?_
                       refine qg rfl (qp rfl (qg rfl (qp rfl (qg rfl (qp rfl (qg rfl (hcall rfl rfl rfl (args_cc _ c k i0 i1 X A (left - 1) deep nd.args g.params hza (hc.ga g (List.mem_of_getElem? hg)) ⟨hd1,by have g:decide (4000 < deep)=false:=(by assumption);simp at g;omega⟩ ⟨by have g:decide (left - 1 < 0)=false:=(by assumption);simp at g;omega,by omega⟩ hK1 H1) ?_)))))))
                       rintro _ S2 ⟨b,left',rfl,hP⟩
                       refine qp rfl (qp rfl (qk (kc rfl kn) kn (sqn (eret (bqr (sqr (fqr rfl ?_)))))))
                       have ho:nd.op=13:=of_decide_eq_true (by assumption)
                       have hb0:nd.brs=[]:=by
                        have g:(decide (nd.op ≠ 4) && decide (nd.op ≠ 8) && decide (nd.brs.length ≠ 0))=false:=by assumption
                        have g2:nd.op=4 ∨ nd.op=8 ∨ nd.brs.length=0:=by simpa [Decidable.or_iff_not_imp_left] using g
                        exact List.eq_nil_of_length_eq_zero (by omega)
                       have hhd:=head_call (ds:=c.decls) (fs:=c.funs) (n:=nd.n) (ty:=nd.ty) (decide_eq_true ho)
                       first
                       | exact sorts_post (want:=g.params.map fun (a:Arg)=>sideOf a.co) (by rw [ho];rfl) (by omega) (by omega) hb0 ((hhd.trans (if_pos ⟨of_decide_eq_true (by assumption),of_decide_eq_true (by assumption)⟩)).trans (by rw [hg];rfl)) hc1 hP
                       | exact none_post h0 hK1 hc1 (hhd.trans (if_neg (fun q=>by first | exact absurd q.1 (of_decide_eq_false (by assumption)) | exact absurd q.1 (Bool.eq_false_iff.1 (by assumption)) | exact absurd q.2 (of_decide_eq_false (by assumption)) | exact absurd q.2 (Bool.eq_false_iff.1 (by assumption)))))
                       | (refine none_post h0 hK1 hc1 ?_
                          have q:decide (nd.n < ((c.funs.map CFun.enc).length:Int))=false:=by assumption
                          have q2:decide (0 ≤ nd.n)=true:=by assumption
                          rw [hhd,if_pos ⟨of_decide_eq_true (by assumption),of_decide_eq_true q2⟩,List.getElem?_eq_none (by simp at q q2;omega)]
                          rfl)
                  ·refine qp rfl (qk (kc rfl (kc rfl (kc rfl (kc rfl (kc rfl (kc rfl kn)))))) (kc rfl (kc rfl kn)) (sqn (ecT rfl (eseq (ereg (qp rfl (qp rfl (qp rfl (qb ?_)))))))))
                   rintro (_ | _) h44
                   ·refine qp rfl (qs rfl rfl (by decide) (qs rfl rfl (by decide) (qs rfl rfl (by decide) (qp rfl (qp rfl (qs rfl rfl (by decide) (qs rfl rfl (by decide) (qs rfl rfl (by decide) (qs rfl rfl (by decide) (qs rfl rfl (by decide) (qs rfl rfl (by decide) (qs rfl rfl (by decide) (qp rfl (qp rfl (qk (kc rfl kn) kn (sqn (eret (bqr (sqr (fqr rfl ?_))))))))))))))))))))
                    have ho:nd.op=12:=of_decide_eq_true (by assumption)
                    have hb0:nd.brs=[]:=by
                     have g:(decide (nd.op ≠ 4) && decide (nd.op ≠ 8) && decide (nd.brs.length ≠ 0))=false:=by assumption
                     have g2:nd.op=4 ∨ nd.op=8 ∨ nd.brs.length=0:=by simpa [Decidable.or_iff_not_imp_left] using g
                     exact List.eq_nil_of_length_eq_zero (by omega)
                    have hhd:=head_emit (ds:=c.decls) (fs:=c.funs) (n:=nd.n) (ty:=nd.ty) (decide_eq_true ho)
                    first
                    | exact sorts_post (want:=[0,2]) (by rw [ho];rfl) (by omega) (by omega) hb0 (hhd.trans (if_pos ⟨of_decide_eq_true (by assumption),of_decide_eq_true (by assumption)⟩)) hc1 hP
                    | exact none_post h0 hK1 hc1 (hhd.trans (if_neg (fun q=>by first | exact absurd q.1 (of_decide_eq_false (by assumption)) | exact absurd q.1 (Bool.eq_false_iff.1 (by assumption)) | exact absurd q.2 (of_decide_eq_false (by assumption)) | exact absurd q.2 (Bool.eq_false_iff.1 (by assumption)))))
                   ·refine qp rfl (qg rfl (qp rfl (qg rfl (qp rfl (qg rfl (qp rfl (qb ?_)))))))
                    rintro (_ | _) h45
                    ·refine qp rfl (qp rfl (qs rfl rfl (by decide) (qs rfl rfl (by decide) (qs rfl rfl (by decide) (qs rfl rfl (by decide) (qs rfl rfl (by decide) (qs rfl rfl (by decide) (qs rfl rfl (by decide) (qp rfl (qp rfl (qk (kc rfl kn) kn (sqn (eret (bqr (sqr (fqr rfl ?_))))))))))))))))
                     have ho:nd.op=12:=of_decide_eq_true (by assumption)
                     have hb0:nd.brs=[]:=by
                      have g:(decide (nd.op ≠ 4) && decide (nd.op ≠ 8) && decide (nd.brs.length ≠ 0))=false:=by assumption
                      have g2:nd.op=4 ∨ nd.op=8 ∨ nd.brs.length=0:=by simpa [Decidable.or_iff_not_imp_left] using g
                      exact List.eq_nil_of_length_eq_zero (by omega)
                     have hhd:=head_emit (ds:=c.decls) (fs:=c.funs) (n:=nd.n) (ty:=nd.ty) (decide_eq_true ho)
                     first
                     | exact sorts_post (want:=[0,2]) (by rw [ho];rfl) (by omega) (by omega) hb0 (hhd.trans (if_pos ⟨of_decide_eq_true (by assumption),of_decide_eq_true (by assumption)⟩)) hc1 hP
                     | exact none_post h0 hK1 hc1 (hhd.trans (if_neg (fun q=>by first | exact absurd q.1 (of_decide_eq_false (by assumption)) | exact absurd q.1 (Bool.eq_false_iff.1 (by assumption)) | exact absurd q.2 (of_decide_eq_false (by assumption)) | exact absurd q.2 (Bool.eq_false_iff.1 (by assumption)))))
                    ·refine qp rfl (qp rfl (qg rfl (qp rfl (qg rfl (hlda rfl rfl (lc rfl (lc rfl (ln rfl))) (qg rfl (qp rfl (qg rfl (qp rfl (qg rfl (qp rfl (qg rfl (hbsl rfl rfl (lc rfl (lc rfl (ln rfl))) (qg rfl (hcall rfl rfl rfl (sorts_c _ c k i0 i1 X A (left - 1) deep nd.args [0,2] hza ⟨hd1,by have g:decide (4000 < deep)=false:=(by assumption);simp at g;omega⟩ ⟨by have g:decide (left - 1 < 0)=false:=(by assumption);simp at g;omega,by omega⟩ hK1 H1) ?_)))))))))))))))
                     rintro _ S2 ⟨b,left',rfl,hP⟩
                     refine qp rfl (qp rfl (qk (kc rfl kn) kn (sqn (eret (bqr (sqr (fqr rfl ?_)))))))
                     have ho:nd.op=12:=of_decide_eq_true (by assumption)
                     have hb0:nd.brs=[]:=by
                      have g:(decide (nd.op ≠ 4) && decide (nd.op ≠ 8) && decide (nd.brs.length ≠ 0))=false:=by assumption
                      have g2:nd.op=4 ∨ nd.op=8 ∨ nd.brs.length=0:=by simpa [Decidable.or_iff_not_imp_left] using g
                      exact List.eq_nil_of_length_eq_zero (by omega)
                     have hhd:=head_emit (ds:=c.decls) (fs:=c.funs) (n:=nd.n) (ty:=nd.ty) (decide_eq_true ho)
                     first
                     | exact sorts_post (want:=[0,2]) (by rw [ho];rfl) (by omega) (by omega) hb0 (hhd.trans (if_pos ⟨of_decide_eq_true (by assumption),of_decide_eq_true (by assumption)⟩)) hc1 hP
                     | exact none_post h0 hK1 hc1 (hhd.trans (if_neg (fun q=>by first | exact absurd q.1 (of_decide_eq_false (by assumption)) | exact absurd q.1 (Bool.eq_false_iff.1 (by assumption)) | exact absurd q.2 (of_decide_eq_false (by assumption)) | exact absurd q.2 (Bool.eq_false_iff.1 (by assumption)))))
                 ·refine qp rfl (qk (kc rfl (kc rfl (kc rfl (kc rfl (kc rfl (kc rfl kn)))))) (kc rfl (kc rfl kn)) (sqn (ecT rfl (eseq (ereg (qp rfl (qp rfl (qp rfl (qb ?_)))))))))
                  rintro (_ | _) h46
                  ·refine qp rfl (qs rfl rfl (by decide) (qs rfl rfl (by decide) (qs rfl rfl (by decide) (qp rfl (qp rfl (qs rfl rfl (by decide) (qs rfl rfl (by decide) (qs rfl rfl (by decide) (qs rfl rfl (by decide) (qs rfl rfl (by decide) (qs rfl rfl (by decide) (qs rfl rfl (by decide) (qp rfl (qp rfl (qk (kc rfl kn) kn (sqn (eret (bqr (sqr (fqr rfl ?_))))))))))))))))))))
                   have ho:nd.op=11:=of_decide_eq_true (by assumption)
                   have hb0:nd.brs=[]:=by
                    have g:(decide (nd.op ≠ 4) && decide (nd.op ≠ 8) && decide (nd.brs.length ≠ 0))=false:=by assumption
                    have g2:nd.op=4 ∨ nd.op=8 ∨ nd.brs.length=0:=by simpa [Decidable.or_iff_not_imp_left] using g
                    exact List.eq_nil_of_length_eq_zero (by omega)
                   have hhd:=head_ifz (ds:=c.decls) (fs:=c.funs) (n:=nd.n) (ty:=nd.ty) (decide_eq_true ho)
                   first
                   | exact sorts_post (want:=[0,2,2]) (by rw [ho];rfl) (by omega) (by omega) hb0 (hhd.trans (if_pos ⟨of_decide_eq_true (by assumption),of_decide_eq_true (by assumption)⟩)) hc1 hP
                   | exact none_post h0 hK1 hc1 (hhd.trans (if_neg (fun q=>by first | exact absurd q.1 (of_decide_eq_false (by assumption)) | exact absurd q.1 (Bool.eq_false_iff.1 (by assumption)) | exact absurd q.2 (of_decide_eq_false (by assumption)) | exact absurd q.2 (Bool.eq_false_iff.1 (by assumption)))))
                  ·refine qp rfl (qg rfl (qp rfl (qg rfl (qp rfl (qg rfl (qp rfl (qb ?_)))))))
                   rintro (_ | _) h47
                   ·refine qp rfl (qp rfl (qs rfl rfl (by decide) (qs rfl rfl (by decide) (qs rfl rfl (by decide) (qs rfl rfl (by decide) (qs rfl rfl (by decide) (qs rfl rfl (by decide) (qs rfl rfl (by decide) (qp rfl (qp rfl (qk (kc rfl kn) kn (sqn (eret (bqr (sqr (fqr rfl ?_))))))))))))))))
                    have ho:nd.op=11:=of_decide_eq_true (by assumption)
                    have hb0:nd.brs=[]:=by
                     have g:(decide (nd.op ≠ 4) && decide (nd.op ≠ 8) && decide (nd.brs.length ≠ 0))=false:=by assumption
                     have g2:nd.op=4 ∨ nd.op=8 ∨ nd.brs.length=0:=by simpa [Decidable.or_iff_not_imp_left] using g
                     exact List.eq_nil_of_length_eq_zero (by omega)
                    have hhd:=head_ifz (ds:=c.decls) (fs:=c.funs) (n:=nd.n) (ty:=nd.ty) (decide_eq_true ho)
                    first
                    | exact sorts_post (want:=[0,2,2]) (by rw [ho];rfl) (by omega) (by omega) hb0 (hhd.trans (if_pos ⟨of_decide_eq_true (by assumption),of_decide_eq_true (by assumption)⟩)) hc1 hP
                    | exact none_post h0 hK1 hc1 (hhd.trans (if_neg (fun q=>by first | exact absurd q.1 (of_decide_eq_false (by assumption)) | exact absurd q.1 (Bool.eq_false_iff.1 (by assumption)) | exact absurd q.2 (of_decide_eq_false (by assumption)) | exact absurd q.2 (Bool.eq_false_iff.1 (by assumption)))))
                   ·refine qp rfl (qp rfl (qg rfl (qp rfl (qg rfl (hlda rfl rfl (lc rfl (lc rfl (ln rfl))) (qg rfl (qp rfl (qg rfl (qp rfl (qg rfl (qp rfl (qg rfl (hbsl rfl rfl (lc rfl (lc rfl (lc rfl (ln rfl)))) (qg rfl (hcall rfl rfl rfl (sorts_c _ c k i0 i1 X A (left - 1) deep nd.args [0,2,2] hza ⟨hd1,by have g:decide (4000 < deep)=false:=(by assumption);simp at g;omega⟩ ⟨by have g:decide (left - 1 < 0)=false:=(by assumption);simp at g;omega,by omega⟩ hK1 H1) ?_)))))))))))))))
                    rintro _ S2 ⟨b,left',rfl,hP⟩
                    refine qp rfl (qp rfl (qk (kc rfl kn) kn (sqn (eret (bqr (sqr (fqr rfl ?_)))))))
                    have ho:nd.op=11:=of_decide_eq_true (by assumption)
                    have hb0:nd.brs=[]:=by
                     have g:(decide (nd.op ≠ 4) && decide (nd.op ≠ 8) && decide (nd.brs.length ≠ 0))=false:=by assumption
                     have g2:nd.op=4 ∨ nd.op=8 ∨ nd.brs.length=0:=by simpa [Decidable.or_iff_not_imp_left] using g
                     exact List.eq_nil_of_length_eq_zero (by omega)
                    have hhd:=head_ifz (ds:=c.decls) (fs:=c.funs) (n:=nd.n) (ty:=nd.ty) (decide_eq_true ho)
                    first
                    | exact sorts_post (want:=[0,2,2]) (by rw [ho];rfl) (by omega) (by omega) hb0 (hhd.trans (if_pos ⟨of_decide_eq_true (by assumption),of_decide_eq_true (by assumption)⟩)) hc1 hP
                    | exact none_post h0 hK1 hc1 (hhd.trans (if_neg (fun q=>by first | exact absurd q.1 (of_decide_eq_false (by assumption)) | exact absurd q.1 (Bool.eq_false_iff.1 (by assumption)) | exact absurd q.2 (of_decide_eq_false (by assumption)) | exact absurd q.2 (Bool.eq_false_iff.1 (by assumption)))))
                ·refine qp rfl (qk (kc rfl (kc rfl (kc rfl (kc rfl (kc rfl (kc rfl kn)))))) (kc rfl (kc rfl kn)) (sqn (ecT rfl (eseq (ereg (qp rfl (qp rfl (qp rfl (qb ?_)))))))))
                 rintro (_ | _) h48
                 ·refine qp rfl (qs rfl rfl (by decide) (qs rfl rfl (by decide) (qs rfl rfl (by decide) (qp rfl (qp rfl (qs rfl rfl (by decide) (qs rfl rfl (by decide) (qs rfl rfl (by decide) (qp rfl (qp rfl (qs rfl rfl (by decide) (qs rfl rfl (by decide) (qs rfl rfl (by decide) (qs rfl rfl (by decide) (qs rfl rfl (by decide) (qs rfl rfl (by decide) (qs rfl rfl (by decide) (qp rfl (qp rfl (qk (kc rfl kn) kn (sqn (eret (bqr ?_)))))))))))))))))))))))
                  refine sqr (fqr rfl ?_)
                  have ho:nd.op=10:=of_decide_eq_true (by assumption)
                  have hb0:nd.brs=[]:=by
                   have g:(decide (nd.op ≠ 4) && decide (nd.op ≠ 8) && decide (nd.brs.length ≠ 0))=false:=by assumption
                   have g2:nd.op=4 ∨ nd.op=8 ∨ nd.brs.length=0:=by simpa [Decidable.or_iff_not_imp_left] using g
                   exact List.eq_nil_of_length_eq_zero (by omega)
                  have hhd:=head_prim (ds:=c.decls) (fs:=c.funs) (n:=nd.n) (ty:=nd.ty) (decide_eq_true ho)
                  first
                  | exact sorts_post (want:=[0,0,1]) (by rw [ho];rfl) (by omega) (by omega) hb0 (hhd.trans (if_pos ⟨of_decide_eq_true (by assumption),of_decide_eq_true (by assumption),of_decide_eq_true (by assumption)⟩)) hc1 hP
                  | exact none_post h0 hK1 hc1 (hhd.trans (if_neg (fun q=>by first | exact absurd q.1 (of_decide_eq_false (by assumption)) | exact absurd q.1 (Bool.eq_false_iff.1 (by assumption)) | exact absurd q.2.1 (of_decide_eq_false (by assumption)) | exact absurd q.2.1 (Bool.eq_false_iff.1 (by assumption)) | exact absurd q.2.2 (of_decide_eq_false (by assumption)) | exact absurd q.2.2 (Bool.eq_false_iff.1 (by assumption)))))
                 ·refine qp rfl (qg rfl (qp rfl (qg rfl (qp rfl (qg rfl (qp rfl (qb ?_)))))))
                  rintro (_ | _) h49
                  ·refine qp rfl (qp rfl (qs rfl rfl (by decide) (qs rfl rfl (by decide) (qs rfl rfl (by decide) (qp rfl (qp rfl (qs rfl rfl (by decide) (qs rfl rfl (by decide) (qs rfl rfl (by decide) (qs rfl rfl (by decide) (qs rfl rfl (by decide) (qs rfl rfl (by decide) (qs rfl rfl (by decide) (qp rfl (qp rfl (qk (kc rfl kn) kn (sqn (eret (bqr (sqr (fqr rfl ?_)))))))))))))))))))))
                   have ho:nd.op=10:=of_decide_eq_true (by assumption)
                   have hb0:nd.brs=[]:=by
                    have g:(decide (nd.op ≠ 4) && decide (nd.op ≠ 8) && decide (nd.brs.length ≠ 0))=false:=by assumption
                    have g2:nd.op=4 ∨ nd.op=8 ∨ nd.brs.length=0:=by simpa [Decidable.or_iff_not_imp_left] using g
                    exact List.eq_nil_of_length_eq_zero (by omega)
                   have hhd:=head_prim (ds:=c.decls) (fs:=c.funs) (n:=nd.n) (ty:=nd.ty) (decide_eq_true ho)
                   first
                   | exact sorts_post (want:=[0,0,1]) (by rw [ho];rfl) (by omega) (by omega) hb0 (hhd.trans (if_pos ⟨of_decide_eq_true (by assumption),of_decide_eq_true (by assumption),of_decide_eq_true (by assumption)⟩)) hc1 hP
                   | exact none_post h0 hK1 hc1 (hhd.trans (if_neg (fun q=>by first | exact absurd q.1 (of_decide_eq_false (by assumption)) | exact absurd q.1 (Bool.eq_false_iff.1 (by assumption)) | exact absurd q.2.1 (of_decide_eq_false (by assumption)) | exact absurd q.2.1 (Bool.eq_false_iff.1 (by assumption)) | exact absurd q.2.2 (of_decide_eq_false (by assumption)) | exact absurd q.2.2 (Bool.eq_false_iff.1 (by assumption)))))
                  ·refine qp rfl (qp rfl (qg rfl (qp rfl (qg rfl (qp rfl (qg rfl (qp rfl (qb ?_))))))))
                   rintro (_ | _) h50
                   ·refine qp rfl (qp rfl (qs rfl rfl (by decide) (qs rfl rfl (by decide) (qs rfl rfl (by decide) (qs rfl rfl (by decide) (qs rfl rfl (by decide) (qs rfl rfl (by decide) (qs rfl rfl (by decide) (qp rfl (qp rfl (qk (kc rfl kn) kn (sqn (eret (bqr (sqr (fqr rfl ?_))))))))))))))))
                    have ho:nd.op=10:=of_decide_eq_true (by assumption)
                    have hb0:nd.brs=[]:=by
                     have g:(decide (nd.op ≠ 4) && decide (nd.op ≠ 8) && decide (nd.brs.length ≠ 0))=false:=by assumption
                     have g2:nd.op=4 ∨ nd.op=8 ∨ nd.brs.length=0:=by simpa [Decidable.or_iff_not_imp_left] using g
                     exact List.eq_nil_of_length_eq_zero (by omega)
                    have hhd:=head_prim (ds:=c.decls) (fs:=c.funs) (n:=nd.n) (ty:=nd.ty) (decide_eq_true ho)
                    first
                    | exact sorts_post (want:=[0,0,1]) (by rw [ho];rfl) (by omega) (by omega) hb0 (hhd.trans (if_pos ⟨of_decide_eq_true (by assumption),of_decide_eq_true (by assumption),of_decide_eq_true (by assumption)⟩)) hc1 hP
                    | exact none_post h0 hK1 hc1 (hhd.trans (if_neg (fun q=>by first | exact absurd q.1 (of_decide_eq_false (by assumption)) | exact absurd q.1 (Bool.eq_false_iff.1 (by assumption)) | exact absurd q.2.1 (of_decide_eq_false (by assumption)) | exact absurd q.2.1 (Bool.eq_false_iff.1 (by assumption)) | exact absurd q.2.2 (of_decide_eq_false (by assumption)) | exact absurd q.2.2 (Bool.eq_false_iff.1 (by assumption)))))
                   ·refine qp rfl (qp rfl (qg rfl (qp rfl (qg rfl (hlda rfl rfl (lc rfl (lc rfl (ln rfl))) (qg rfl (qp rfl (qg rfl (qp rfl (qg rfl (qp rfl (qg rfl (hbsl rfl rfl (lc rfl (lc rfl (lc rfl (ln rfl)))) (qg rfl (hcall rfl rfl rfl (sorts_c _ c k i0 i1 X A (left - 1) deep nd.args [0,0,1] hza ⟨hd1,by have g:decide (4000 < deep)=false:=(by assumption);simp at g;omega⟩ ⟨by have g:decide (left - 1 < 0)=false:=(by assumption);simp at g;omega,by omega⟩ hK1 H1) ?_)))))))))))))))
                    rintro _ S2 ⟨b,left',rfl,hP⟩
                    refine qp rfl (qp rfl (qk (kc rfl kn) kn (sqn (eret (bqr (sqr (fqr rfl ?_)))))))
                    have ho:nd.op=10:=of_decide_eq_true (by assumption)
                    have hb0:nd.brs=[]:=by
                     have g:(decide (nd.op ≠ 4) && decide (nd.op ≠ 8) && decide (nd.brs.length ≠ 0))=false:=by assumption
                     have g2:nd.op=4 ∨ nd.op=8 ∨ nd.brs.length=0:=by simpa [Decidable.or_iff_not_imp_left] using g
                     exact List.eq_nil_of_length_eq_zero (by omega)
                    have hhd:=head_prim (ds:=c.decls) (fs:=c.funs) (n:=nd.n) (ty:=nd.ty) (decide_eq_true ho)
                    first
                    | exact sorts_post (want:=[0,0,1]) (by rw [ho];rfl) (by omega) (by omega) hb0 (hhd.trans (if_pos ⟨of_decide_eq_true (by assumption),of_decide_eq_true (by assumption),of_decide_eq_true (by assumption)⟩)) hc1 hP
                    | exact none_post h0 hK1 hc1 (hhd.trans (if_neg (fun q=>by first | exact absurd q.1 (of_decide_eq_false (by assumption)) | exact absurd q.1 (Bool.eq_false_iff.1 (by assumption)) | exact absurd q.2.1 (of_decide_eq_false (by assumption)) | exact absurd q.2.1 (Bool.eq_false_iff.1 (by assumption)) | exact absurd q.2.2 (of_decide_eq_false (by assumption)) | exact absurd q.2.2 (Bool.eq_false_iff.1 (by assumption)))))
               ·refine qp rfl (qk (kc rfl (kc rfl (kc rfl (kc rfl (kc rfl (kc rfl (kc rfl kn))))))) (kc rfl (kc rfl kn)) (sqn (ecT rfl (eseq (ereg (qp rfl (qp rfl (qp rfl (qb ?_)))))))))
                rintro (_ | _) h51
                ·refine qp rfl (qs rfl rfl (by decide) (qp rfl (qp rfl (qs rfl rfl (by decide) (qs rfl rfl (by decide) (qs rfl rfl (by decide) (qs rfl rfl (by decide) (qs rfl rfl (by decide) (qs rfl rfl (by decide) (qs rfl rfl (by decide) (qp rfl (qp rfl (qk (kc rfl kn) kn (sqn (eret (bqr (sqr (fqr rfl ?_))))))))))))))))))
                 have ho:nd.op=9:=of_decide_eq_true (by assumption)
                 have hb0:nd.brs=[]:=by
                  have g:(decide (nd.op ≠ 4) && decide (nd.op ≠ 8) && decide (nd.brs.length ≠ 0))=false:=by assumption
                  have g2:nd.op=4 ∨ nd.op=8 ∨ nd.brs.length=0:=by simpa [Decidable.or_iff_not_imp_left] using g
                  exact List.eq_nil_of_length_eq_zero (by omega)
                 have hhd:=head_cut (ds:=c.decls) (fs:=c.funs) (n:=nd.n) (ty:=nd.ty) (decide_eq_true ho)
                 first
                 | exact sorts_post (want:=[0,1]) (by rw [ho];rfl) (by omega) (by omega) hb0 (hhd.trans (if_pos ⟨(by assumption),of_decide_eq_true (by assumption)⟩)) hc1 hP
                 | exact none_post h0 hK1 hc1 (hhd.trans (if_neg (fun q=>by first | exact absurd q.1 (of_decide_eq_false (by assumption)) | exact absurd q.1 (Bool.eq_false_iff.1 (by assumption)) | exact absurd q.2 (of_decide_eq_false (by assumption)) | exact absurd q.2 (Bool.eq_false_iff.1 (by assumption)))))
                ·refine qp rfl (qg rfl (qp rfl (qb ?_)))
                 rintro (_ | _) h52
                 ·refine qp rfl (qp rfl (qs rfl rfl (by decide) (qs rfl rfl (by decide) (qs rfl rfl (by decide) (qs rfl rfl (by decide) (qs rfl rfl (by decide) (qs rfl rfl (by decide) (qs rfl rfl (by decide) (qp rfl (qp rfl (qk (kc rfl kn) kn (sqn (eret (bqr (sqr (fqr rfl ?_))))))))))))))))
                  have ho:nd.op=9:=of_decide_eq_true (by assumption)
                  have hb0:nd.brs=[]:=by
                   have g:(decide (nd.op ≠ 4) && decide (nd.op ≠ 8) && decide (nd.brs.length ≠ 0))=false:=by assumption
                   have g2:nd.op=4 ∨ nd.op=8 ∨ nd.brs.length=0:=by simpa [Decidable.or_iff_not_imp_left] using g
                   exact List.eq_nil_of_length_eq_zero (by omega)
                  have hhd:=head_cut (ds:=c.decls) (fs:=c.funs) (n:=nd.n) (ty:=nd.ty) (decide_eq_true ho)
                  first
                  | exact sorts_post (want:=[0,1]) (by rw [ho];rfl) (by omega) (by omega) hb0 (hhd.trans (if_pos ⟨(by assumption),of_decide_eq_true (by assumption)⟩)) hc1 hP
                  | exact none_post h0 hK1 hc1 (hhd.trans (if_neg (fun q=>by first | exact absurd q.1 (of_decide_eq_false (by assumption)) | exact absurd q.1 (Bool.eq_false_iff.1 (by assumption)) | exact absurd q.2 (of_decide_eq_false (by assumption)) | exact absurd q.2 (Bool.eq_false_iff.1 (by assumption)))))
                 ·refine qp rfl (qp rfl (qg rfl (qp rfl (qg rfl (hlda rfl rfl (lc rfl (lc rfl (ln rfl))) (qg rfl (qp rfl (qg rfl (qp rfl (qg rfl (qp rfl (qg rfl (hbsl rfl rfl (lc rfl (lc rfl (ln rfl))) (qg rfl (hcall rfl rfl rfl (sorts_c _ c k i0 i1 X A (left - 1) deep nd.args [0,1] hza ⟨hd1,by have g:decide (4000 < deep)=false:=(by assumption);simp at g;omega⟩ ⟨by have g:decide (left - 1 < 0)=false:=(by assumption);simp at g;omega,by omega⟩ hK1 H1) ?_)))))))))))))))
                  rintro _ S2 ⟨b,left',rfl,hP⟩
                  refine qp rfl (qp rfl (qk (kc rfl kn) kn (sqn (eret (bqr (sqr (fqr rfl ?_)))))))
                  have ho:nd.op=9:=of_decide_eq_true (by assumption)
                  have hb0:nd.brs=[]:=by
                   have g:(decide (nd.op ≠ 4) && decide (nd.op ≠ 8) && decide (nd.brs.length ≠ 0))=false:=by assumption
                   have g2:nd.op=4 ∨ nd.op=8 ∨ nd.brs.length=0:=by simpa [Decidable.or_iff_not_imp_left] using g
                   exact List.eq_nil_of_length_eq_zero (by omega)
                  have hhd:=head_cut (ds:=c.decls) (fs:=c.funs) (n:=nd.n) (ty:=nd.ty) (decide_eq_true ho)
                  first
                  | exact sorts_post (want:=[0,1]) (by rw [ho];rfl) (by omega) (by omega) hb0 (hhd.trans (if_pos ⟨(by assumption),of_decide_eq_true (by assumption)⟩)) hc1 hP
                  | exact none_post h0 hK1 hc1 (hhd.trans (if_neg (fun q=>by first | exact absurd q.1 (of_decide_eq_false (by assumption)) | exact absurd q.1 (Bool.eq_false_iff.1 (by assumption)) | exact absurd q.2 (of_decide_eq_false (by assumption)) | exact absurd q.2 (Bool.eq_false_iff.1 (by assumption)))))
        ·refine qp rfl (qk (kc rfl (kc rfl (kc rfl (kc rfl (kc rfl (kc rfl (kc rfl kn))))))) (kc rfl (kc rfl kn)) (sqn (ecT rfl (eseq (ereg (qp rfl (qp rfl (qp rfl (qb ?_)))))))))
         rintro (_ | _) h53
         ·refine qp rfl (qs rfl rfl (by decide) (qs rfl rfl (by decide) (qs rfl rfl (by decide) (qs rfl rfl (by decide) (qp rfl (qp rfl (qk (kc rfl kn) kn (sqn (eret (bqr (sqr (fqr rfl ?_))))))))))))
          have ho:nd.op=1:=of_decide_eq_true (by assumption)
          have hl:leafOp nd.op=true:=by rw [ho];rfl
          have hb0:nd.brs=[]:=by
           have g:(decide (nd.op ≠ 4) && decide (nd.op ≠ 8) && decide (nd.brs.length ≠ 0))=false:=by assumption
           have g2:nd.op=4 ∨ nd.op=8 ∨ nd.brs.length=0:=by simpa [Decidable.or_iff_not_imp_left] using g
           exact List.eq_nil_of_length_eq_zero (by omega)
          have hhd:=head_int (ds:=c.decls) (fs:=c.funs) (n:=nd.n) (ty:=nd.ty) (decide_eq_true ho)
          have hl0:0 ≤ left - 1:=by have g:decide (left - 1 < 0)=false:=(by assumption);simpa using g
          have hd0:deep ≤ 4000:=by have g:decide (4000 < deep)=false:=(by assumption);simpa using g
          first
          | exact none_post h0 hK1 hc1 (hhd.trans (if_neg (fun q=>by first | exact absurd q (of_decide_eq_false (by assumption)) | exact absurd q (Bool.eq_false_iff.1 (by assumption)))))
          | (refine leaf_post hl hl0 hd0 hK1 hc1 ?_
             have hh2:=hhd.trans (if_pos (of_decide_eq_true (by assumption)))
             rw [vN_eq,hh2,hb0]
             simp [vNs_nil,vBs_nil,ho])
         ·refine qp rfl (qg rfl (qp rfl (qg rfl (qp rfl (qg rfl (qp rfl (qg rfl (qp rfl (qp rfl (qp rfl (qk (kc rfl kn) kn (sqn (eret (bqr (sqr (fqr rfl ?_))))))))))))))))
          have ho:nd.op=1:=of_decide_eq_true (by assumption)
          have hl:leafOp nd.op=true:=by rw [ho];rfl
          have hb0:nd.brs=[]:=by
           have g:(decide (nd.op ≠ 4) && decide (nd.op ≠ 8) && decide (nd.brs.length ≠ 0))=false:=by assumption
           have g2:nd.op=4 ∨ nd.op=8 ∨ nd.brs.length=0:=by simpa [Decidable.or_iff_not_imp_left] using g
           exact List.eq_nil_of_length_eq_zero (by omega)
          have hhd:=head_int (ds:=c.decls) (fs:=c.funs) (n:=nd.n) (ty:=nd.ty) (decide_eq_true ho)
          have hl0:0 ≤ left - 1:=by have g:decide (left - 1 < 0)=false:=(by assumption);simpa using g
          have hd0:deep ≤ 4000:=by have g:decide (4000 < deep)=false:=(by assumption);simpa using g
          first
          | exact none_post h0 hK1 hc1 (hhd.trans (if_neg (fun q=>by first | exact absurd q (of_decide_eq_false (by assumption)) | exact absurd q (Bool.eq_false_iff.1 (by assumption)))))
          | (refine leaf_post hl hl0 hd0 hK1 hc1 ?_
             have hh2:=hhd.trans (if_pos (of_decide_eq_true (by assumption)))
             rw [vN_eq,hh2,hb0]
             simp [vNs_nil,vBs_nil,ho])
  ·refine qp rfl (qk (kc rfl (kc rfl (kc rfl (kc rfl (kc rfl kn))))) (kc rfl (kc rfl kn)) (sqn (ecT rfl (eseq (ereg (qp rfl (qk (kc rfl kn) kn (sqn (eret (sqr (fqr rfl (no_post h0 hK1 hc1 fun h=>?_))))))))))))
   have n1:=nNodes_pos nd
   have d1:=nDepth_pos nd
   have h2:=h.2.1
   have h3:=h.2.2
   first
   | (have g:decide (left - 1 < 0)=true:=by assumption
      simp at g;omega)
   | (have g:decide (4000 < deep)=true:=by assumption
      simp at g;omega)
 ·refine qp rfl (qs rfl rfl (by decide) (qs rfl rfl (by decide) (qp rfl (qk (kc rfl (kc rfl (kc rfl (kc rfl (kc rfl kn))))) (kc rfl (kc rfl kn)) (sqn (ecT rfl (eseq (ereg (qp rfl (qk (kc rfl kn) kn (sqn (eret (sqr (fqr rfl (no_post h0 hK1 hc1 fun h=>?_)))))))))))))))
  have n1:=nNodes_pos nd
  have d1:=nDepth_pos nd
  have h2:=h.2.1
  have h3:=h.2.2
  first
  | (have g:decide (left - 1 < 0)=true:=by assumption
     simp at g;omega)
  | (have g:decide (4000 < deep)=true:=by assumption
     simp at g;omega)
theorem valid_c (c:Core) (hc:CoreSz c) (a:Node):a.sz ≤ 2 ^ 40 → VC c a:=by
 induction a using Node.ind with
 | h a h1 h2 =>
   intro hz s k i0 i1 X A left deep hK h0 h00 hd1 hd2
   exact valid_c0 c hc a hz (fun b hb=>h1 b hb (by have:=Node.sz_arg hb;omega)) (fun b hb=>h2 b hb (by have:=Node.sz_br hb;have:=b.sz_body;omega)) s k i0 i1 X A left deep hK h0 h00 hd1 hd2
end Go.Sim.Kd
