/-
  A part of a proof: see the last text of this claim.
-/
import Derived.Test.YtljdbieojelmjaaGreatPE
import Derived.Test.YtljdbieojelmjaaGreatPG
set_option linter.unusedVariables false
set_option linter.unusedSimpArgs false
namespace Go.Sim.W
open Go Go.Sim
theorem one_c (s:Sg) (b:Bool):HC p N121_ [B b] s (fun r s'=>r=[I (if b=true then 1 else 0)] ∧ s'=s):=by
 refine hcf J f121_ J ?_
 simp only [chainOf]
 refine er (qp J (qn (kq1 J) kn (eseq (er (qp J (qb ?_))))))
 rintro (_ | _) h1
 ·refine qn (kq1 J) kn (ecF J (eskip (sqn (er (qp J (qn (kq1 J) kn (eret (fqr J ?_))))))))
  refine ⟨congrArg (fun x=>[I x]) ?_,J⟩
  simp_all
 refine qn (kq1 J) kn (ecT J (er (qp J (qn (kq1 J) kn (eret (sqr (fqr J ?_)))))))
 refine ⟨congrArg (fun x=>[I x]) ?_,J⟩
 simp_all
theorem quotient_c (s:Sg) (a b:Int):HC p N120_ [I a,I b] s (fun r s'=>r=[I (quoS a b)] ∧ s'=s):=by
 refine hcf J f120_ J ?_
 simp only [chainOf]
 refine er (qp J (qn (kq2 J) kn (eseq (er (qp J (qn (kq3 J) kn (eblock (er (qp J (qb ?_))))))))))
 rintro (_ | _) h1
 ·refine qp J (qn (kq4 J) kn (ecF J (er (qp J (qb ?_)))))
  rintro (_ | _) h2
  ·refine qp J (qn (kq3 J) kn (ecF J (eskip (bqn (sqn (er (pq2 J (hquo J J (by simp_all) (qp J (qn (kq1 J) kn (eret (fqr J ?_))))))))))))
   refine ⟨congrArg (fun x=>[I x]) ?_,J⟩
   simp_all [quoS,w64,Int.tdiv_neg]
  refine qp J (qn (kq3 J) kn (ecT J (er (pq3 J (qn (kq1 J) kn (eret (bqr (sqr (fqr J ?_)))))))))
  refine ⟨congrArg (fun x=>[I x]) ?_,J⟩
  simp_all [quoS,w64,Int.tdiv_neg]
 refine qp J (qn (kq4 J) kn (ecT J (er (qp J (qn (kq1 J) kn (eret (bqr (sqr (fqr J ?_)))))))))
 refine ⟨congrArg (fun x=>[I x]) ?_,J⟩
 simp_all [quoS,w64,Int.tdiv_neg]
theorem prim_c (s:Sg) (op a b:Int):HC p N110_ [I op,I a,I b] s (fun r s'=>r=[I (resS op a b)] ∧ s'=s):=by
 refine hcf J f110_ J ?_
 simp only [chainOf]
 refine er (qp J (qn (kq3 J) kn (eseq (er (qp J (qn (kq3 J) kn (eblock (er (qp J (qb ?_))))))))))
 rintro (_ | _) h1
 refine qp J (qn (kq4 J) kn (ecF J (er (qp J (qb ?_)))))
 rintro (_ | _) h2
 refine qp J (qn (kq4 J) kn (ecF J (er (qp J (qb ?_)))))
 rintro (_ | _) h3
 refine qp J (qn (kq4 J) kn (ecF J (er (qp J (qb ?_)))))
 rintro (_ | _) h4
 refine qp J (qn (kq4 J) kn (ecF J (er (qp J (qb ?_)))))
 rintro (_ | _) h5
 refine qp J (qn (kq4 J) kn (ecF J (er (qp J (qb ?_)))))
 rintro (_ | _) h6
 refine qp J (qn (kq3 J) kn (ecF J (eskip (bqn (sqn (er (pq3 J (hcall J J J (one_c _ _) ?_))))))))
 rintro _ _ ⟨rfl,rfl⟩
 refine qp J (qn (kq1 J) kn (eret (fqr J ?_)))
 refine ⟨congrArg (fun x=>[I x]) ?_,J⟩
 simp_all [resS,w64]
 refine qp J (qn (kq3 J) kn (ecT J (er (pq3 J (hcall J J J (one_c _ _) ?_)))))
 rintro _ _ ⟨rfl,rfl⟩
 refine qp J (qn (kq1 J) kn (eret (bqr (sqr (fqr J ?_)))))
 refine ⟨congrArg (fun x=>[I x]) ?_,J⟩
 simp_all [resS,w64]
 refine qp J (qn (kq4 J) kn (ecT J (er (pq4 J (hcall J J J (quotient_c _ a b) ?_)))))
 rintro _ _ ⟨rfl,rfl⟩
 refine pq3 J (qn (kq1 J) kn (eret (bqr (sqr (fqr J ?_)))))
 refine ⟨congrArg (fun x=>[I x]) ?_,J⟩
 simp_all [resS,w64]
 refine qp J (qn (kq4 J) kn (ecT J (er (pq2 J (hcall J J J (quotient_c _ a b) ?_)))))
 rintro _ _ ⟨rfl,rfl⟩
 refine qp J (qn (kq1 J) kn (eret (bqr (sqr (fqr J ?_)))))
 refine ⟨congrArg (fun x=>[I x]) ?_,J⟩
 simp_all [resS,w64]
 rotate_left
 rotate_left
 rotate_left
 all_goals
  refine qp J (qn (kq4 J) kn (ecT J (er (pq4 J (qn (kq1 J) kn (eret (bqr (sqr (fqr J ?_)))))))))
  refine ⟨congrArg (fun x=>[I x]) ?_,J⟩
  simp_all [resS,w64]
end Go.Sim.W
namespace Go.Sim.W
open Go Go.Sim
theorem place_l (u:AV) (l:List Int) (x:Int) (i:Nat) (hi:i ≤ l.length) (hs:l.length ≤ 2 ^ 40) {n:Nat} {v:Nat → Bool} {D:List (Nat × List AV)} {S:Sg} {Q:Ex → Fr → Prop} (hu:NL u l S)
 (hX:∀ j,placeF x i (l.drop i)=-1 → Q (.exit 0) ⟨upd (upd (upd (upd (upd ((fun _=>none)) 10 (some (.val (B false)))) 9 (some (.val (I j)))) 8 (some (.val (I l.length)))) 7 (some (.val u))) 1 (some (.val (I x))),(fun _=>none),n,v,D,S⟩) (hR:∀ k:Int,placeF x i (l.drop i)=k → Q .ret ⟨upd ((fun _=>none)) 4 (some (.val (I k))),(fun _=>none),n,v,D,S⟩):EX (callL p) (.loop F117_l1) ⟨upd (upd (upd (upd ((fun _=>none)) 9 (some (.val (I i)))) 8 (some (.val (I l.length)))) 7 (some (.val u))) 1 (some (.val (I x))),(fun _=>none),n,v,D,S⟩ Q:=by
 refine eloop (er (qp J (qb ?_)))
 rintro (_ | _) h1
 ·refine qn (kq5 J) kn (eseq (ecF J (eexit (sqx ?_))))
  exact hX _ (by rw [List.drop_eq_nil_of_le (by simp at h1 ⊢;omega)];rfl)
 refine qn (kq5 J) kn (eseq (ecT J (eskip (sqn (eseq (eblock (er (qp J ?_))))))))
 have hlt:i < l.length:=by simpa using h1
 obtain ⟨a,ha⟩:=get_of_lt hlt
 have hd:=drop_cons ha
 obtain ⟨q,hq1,hq2⟩:=hu.at_ ha
 refine hiaN J J hq1 (hldN J hq2 (pq2 J (qn (kq6 J) kn (er (pq3 J (qb ?_))))))
 rintro (_ | _) h2
 ·refine qn (kq6 J) kn (ecF J (eskip (bqn (sqn (ereg (hadd J J (i64w (by omega)) (qp J (qk (kq4 J) kn ?_))))))))
  exact place_l u l x (i + 1) (by omega) hs hu (fun j h=>hX j (by rw [hd];simp_all [placeF])) (fun k h=>hR k (by rw [hd];simp_all [placeF]))
 refine qn (kq6 J) kn (ecT J (er (pq2 J (qn (kq1 J) kn (eret (bqr (sqr ?_)))))))
 exact hR i (by rw [hd];simp_all [placeF])
termination_by l.length - i
decreasing_by all_goals omega
theorem place_c (s:Sg) (u:AV) (l:List Int) (x:Int) (hu:NL u l s) (hs:l.length ≤ 2 ^ 40):HC p N117_ [u,I x] s (fun r s'=>r=[I (placeF x 0 l)] ∧ s'=s):=by
 refine hcf J f117_ J ?_
 simp only [chainOf]
 refine er (qp J (qn (kq2 J) kn (eseq (er (qp J (hlenA J hu.len (qp J (qn (kq4 J) kn (eblock ?_)))))))))
 refine place_l u l x 0 (by omega) hs hu ?_ ?_
 ·intro j hj
  rw [List.drop_zero] at hj
  refine bqx (sqn (er (qp J (qn (kq1 J) kn (eret (fqr J ?_))))))
  exact ⟨by rw [hj];rfl,rfl⟩
 intro k hj
 rw [List.drop_zero] at hj
 refine bqr (sqr (fqr J ?_))
 exact ⟨by rw [hj];rfl,rfl⟩
end Go.Sim.W
namespace Go.Sim.W
open Go Go.Sim
theorem found_l (ws:List Word) (S0:Sg) (X:List Nat) (i:Nat) (u:AV) (l:List Int) (hi:i ≤ ws.length) (hs:ws.length ≤ 2 ^ 38) (hl:l.length + (ws.length - i) ≤ 2 ^ 39) {n:Nat} {v:Nat → Bool} {D:List (Nat × List AV)} {S:Sg} {Q:Ex → Fr → Prop} (hu:NM u l S) (hK:KL X S0 S) (ht:∀ g ∈ tk u,g ∈ X ∨ S0.mn ≤ g)
 (hX:∀ j u' S',NM u' (foundF l (ws.drop i)) S' → KL X S0 S' → (∀ g ∈ tk u',g ∈ X ∨ S0.mn ≤ g) → Q (.exit 0) ⟨upd (upd (upd (upd (upd ((fun _=>none)) 10 (some (.val (B false)))) 9 (some (.val (I j)))) 8 (some (.val (I (ws.map Word.enc).length)))) 7 (some (.val (SL 2 (ws.map Word.enc))))) 0 (some (.val u')),(fun _=>none),n,v,D,S'⟩):EX (callL p) (.loop F116_l1) ⟨upd (upd (upd (upd ((fun _=>none)) 9 (some (.val (I i)))) 8 (some (.val (I (ws.map Word.enc).length)))) 7 (some (.val (SL 2 (ws.map Word.enc))))) 0 (some (.val u)),(fun _=>none),n,v,D,S⟩ Q:=by
 refine eloop (er (qp J (qb ?_)))
 rintro (_ | _) h1
 refine qn (kq5 J) kn (eseq (ecF J (eexit (sqx ?_))))
 have he:i=ws.length:=by simp at h1;omega
 subst he
 exact hX _ _ _ (by rw [List.drop_length];exact hu) hK ht
 refine qn (kq5 J) kn (eseq (ecT J (eskip (sqn (eseq (eblock (er ?_)))))))
 have hlt:i < ws.length:=by simpa using h1
 obtain ⟨a,ha⟩:=get_of_lt hlt
 have hd:=drop_cons ha
 refine hia (y:=.agg [B a.ref,I a.n]) rfl rfl (by omega) (by simp [ha,Word.enc,Word.cs]) rfl (hlda rfl rfl (lc rfl (lc rfl (ln rfl))) (hal (dc (dc (dc (dc (dc (dc (dc dn rfl) rfl) rfl) rfl) rfl) rfl) rfl) (hstl rfl rfl rfl rfl (Nlb rfl) (lc rfl (lc rfl (ln rfl))) (qk (kc rfl (kc rfl (kc rfl (kc rfl (kc rfl kn))))) (kc rfl kn) (sqn (eseq (ereg (qp rfl (qp rfl (qb ?_))))))))))
 rintro (_ | _) h2
 refine qp J (zq5 J (qp J (qn (kq6 J) (kq1 J) (ecF J (eskip (bqn (sqn (ereg (hadd J J (i64w (by omega)) (qp J (qk (kq4 J) kn ?_)))))))))))
 rotate_left
 refine qp J (qg J (qp J (qg J (qp J (qg J (qp J (qg J (hcall J J (by simp [AV.ers,hu.er,AV.er]) (place_c _ u l a.n hu.nl (by omega)) ?_))))))))
 rintro _ _ ⟨rfl,rfl⟩
 refine qg J (qp J (qb ?_))
 rintro (_ | _) h3
 refine qp J (qn (kq6 J) (kq1 J) (ecF J (eskip (bqn (sqn (ereg (hadd J J (i64w (by omega)) (qp J (qk (kq4 J) kn ?_)))))))))
 rotate_left
 refine qp J (qn (kq6 J) (kq1 J) (ecT J (ereg (pq3 J (hbsl J J (lq1 J) ?_)))))
 obtain ⟨u2,S2,w1,w2,w3,w4⟩:=appm_n a.n hu (by omega)
 refine hwop J w1 (qp J (qk (kq4 J) kn (bqn (sqn (ereg (hadd J J (i64w (by omega)) (qp J (qk (kq4 J) kn ?_))))))))
 rotate_left
 all_goals
  first
  | exact found_l ws S0 X (i + 1) u2 (l ++ [a.n]) (by omega) hs (by simp;omega) w2 (hK.trans w3 ht) (fun g hg=>.inr (Nat.le_trans hK.mn (w4 g hg))) (fun j u' S' h1 h2 h3=>hX j u' S' (by rw [hd,foundF,if_pos (by simp_all)];exact h1) h2 h3)
  | exact found_l ws S0 X (i + 1) u l (by omega) hs (by omega) hu hK ht (fun j u' S' h1 h2 h3=>hX j u' S' (by rw [hd,foundF,if_neg (by simp_all)];exact h1) h2 h3)
termination_by ws.length - i
decreasing_by all_goals omega
theorem found_c (s:Sg) (u:AV) (l:List Int) (ws:List Word) (hu:NM u l s) (hl:l.length ≤ 2 ^ 38) (hs:ws.length ≤ 2 ^ 38):HC p N116_ [u,SL 2 (ws.map Word.enc)] s (fun r s'=>∃ u',r=[u'] ∧ NM u' (foundF l ws) s' ∧ KL (tk u) s s' ∧ ∀ g ∈ tk u',g ∈ tk u ∨ s.mn ≤ g):=by
 refine hcf J f116_ J ?_
 simp only [chainOf]
 refine er (qp J (qn (kq2 J) kn (eseq (er (pq3 J (qn (kq4 J) kn (eblock (found_l ws s (tk u) 0 u l (by omega) hs (by omega) hu (KL.refl _ _) (fun g h=>.inl h) ?_))))))))
 intro j u' S' h1 h2 h3
 refine bqx (sqn (er (pq2 J (qn (kq1 J) kn (eret (fqr J ?_))))))
 exact ⟨u',by rw [show AV.ers [u']=[u'] from by simp [AV.ers,h1.er]],h1,h2,h3⟩
end Go.Sim.W
namespace Go.Sim.W
open Go Go.Sim
theorem find_l (x:Int) (l:List HOb) (i:Nat) (hi:i ≤ l.length) (hs:l.length ≤ 2 ^ 40) {n:Nat} {v:Nat → Bool} {D:List (Nat × List AV)} {S:Sg} {Q:Ex → Fr → Prop}
 (hX:∀ j,findF x i (l.drop i)=-1 → Q (.exit 0) ⟨upd (upd (upd (upd (upd ((fun _=>none)) 11 (some (.val (B false)))) 10 (some (.val (I j)))) 9 (some (.val (I (l.map HOb.enc).length)))) 8 (some (.val (.slice .none 3 (l.map HOb.enc))))) 1 (some (.val (I x))),(fun _=>none),n,v,D,S⟩) (hR:∀ k:Int,findF x i (l.drop i)=k → Q .ret ⟨upd ((fun _=>none)) 4 (some (.val (I k))),(fun _=>none),n,v,D,S⟩):EX (callL p) (.loop F100_l1) ⟨upd (upd (upd (upd ((fun _=>none)) 10 (some (.val (I i)))) 9 (some (.val (I (l.map HOb.enc).length)))) 8 (some (.val (.slice .none 3 (l.map HOb.enc))))) 1 (some (.val (I x))),(fun _=>none),n,v,D,S⟩ Q:=by
 refine eloop (er (qp J (qb ?_)))
 rintro (_ | _) h1
 ·refine qn (kq5 J) kn (eseq (ecF J (eexit (sqx ?_))))
  exact hX _ (by rw [List.drop_eq_nil_of_le (by simp at h1 ⊢;omega)];rfl)
 refine qn (kq5 J) kn (eseq (ecT J (eskip (sqn (eseq (eblock (er (qp J ?_))))))))
 have hlt:i < l.length:=by simpa using h1
 obtain ⟨a,ha⟩:=get_of_lt hlt
 have hd:=drop_cons ha
 refine hia (y:=.agg a.cs) rfl rfl (by omega) (by simp [ha,HOb.enc]) rfl (hlda rfl rfl (lc rfl (lc rfl (lc rfl (ln rfl)))) (hal (dc (dc (dc (dc (dc (dc (dc (dc dn rfl) rfl) rfl) rfl) rfl) rfl) rfl) rfl) (qp rfl (hstl rfl rfl rfl rfl (Nlb rfl) (lc rfl (lc rfl (lc rfl (ln rfl)))) (qk (kc rfl (kc rfl (kc rfl (kc rfl (kc rfl (kc rfl kn)))))) (kc rfl kn) (sqn (eseq (ereg (qp rfl (qp rfl (qp rfl (qp rfl (qb ?_)))))))))))))
 rintro (_ | _) h2
 ·refine qn (kq6 J) kn (ecF J (eskip (bqn (sqn (ereg (hadd J J (i64w (by omega)) (qp J (qk (kq4 J) kn ?_))))))))
  exact find_l x l (i + 1) (by omega) hs (fun j h=>hX j (by rw [hd];simp_all [findF])) (fun k h=>hR k (by rw [hd];simp_all [findF]))
 refine qn (kq6 J) kn (ecT J (er (pq2 J (qn (kq1 J) kn (eret (bqr (sqr ?_)))))))
 exact hR i (by rw [hd];simp_all [findF])
termination_by l.length - i
decreasing_by all_goals omega
theorem find_c (s:Sg) (h:RH) (x:Int) (hs:h.obs.length ≤ 2 ^ 40):HC p N100_ [.agg h.cs,I x] s (fun r s'=>r=[I (findF x 0 h.obs)] ∧ s'=s):=by
 refine hcf J f100_ J ?_
 simp only [chainOf]
 refine er (hbox (dq2 J) J (lq2 J) (qp J (qn (kq2 J) (kq1 J) (eseq (er (pq4 J (qn (kq4 J) kn (eblock ?_))))))))
 refine find_l x h.obs 0 (by omega) hs ?_ ?_
 ·intro j hj
  rw [List.drop_zero] at hj
  refine bqx (sqn (er (qp J (qn (kq1 J) kn (eret (fqr J ?_))))))
  exact ⟨by rw [hj];rfl,rfl⟩
 intro k hj
 rw [List.drop_zero] at hj
 refine bqr (sqr (fqr J ?_))
 exact ⟨by rw [hj];rfl,rfl⟩
theorem cells_c (s:Sg) (x:Int) (h0:0 ≤ x) (h1:x ≤ 2 ^ 60):HC p N99_ [I x] s (fun r s'=>r=[I (1 + x)] ∧ s'=s):=by
 refine hcf J f99_ J ?_
 simp only [chainOf]
 refine er (qp J (qn (kq1 J) kn (er (qp J (hadd J J (i64w (by omega)) (qp J (qn (kq1 J) kn (eret (fqr J ?_)))))))))
 exact ⟨rfl,rfl⟩
theorem valid_l (h:RH) (hh:h.obs.length ≤ 2 ^ 40) (l:List Word) (i:Nat) (hi:i ≤ l.length) (hs:l.length ≤ 2 ^ 40) {n:Nat} {v:Nat → Bool} {D:List (Nat × List AV)} {S:Sg} {Q:Ex → Fr → Prop}
 (hX:∀ j,validF h.obs (l.drop i)=true → Q (.exit 0) ⟨upd (upd (upd (upd (upd ((fun _=>none)) 10 (some (.val (B false)))) 9 (some (.val (I j)))) 8 (some (.val (I (l.map Word.enc).length)))) 7 (some (.val (.slice .none 2 (l.map Word.enc))))) 2 (some (.loc 2 0)),upd ((fun _=>none)) 2 (some (h.cs)),n,v,D,S⟩) (hR:validF h.obs (l.drop i)=false → Q .ret ⟨upd ((fun _=>none)) 4 (some (.val (B false))),(fun _=>none),n,v,D,S⟩):EX (callL p) (.loop F119_l1) ⟨upd (upd (upd (upd ((fun _=>none)) 9 (some (.val (I i)))) 8 (some (.val (I (l.map Word.enc).length)))) 7 (some (.val (.slice .none 2 (l.map Word.enc))))) 2 (some (.loc 2 0)),upd ((fun _=>none)) 2 (some (h.cs)),n,v,D,S⟩ Q:=by
 refine eloop (er (qp J (qb ?_)))
 rintro (_ | _) h1
 ·refine qn (kq5 J) (kq1 J) (eseq (ecF J (eexit (sqx ?_))))
  exact hX _ (by rw [List.drop_eq_nil_of_le (by simp at h1 ⊢;omega)];rfl)
 refine qn (kq5 J) (kq1 J) (eseq (ecT J (eskip (sqn (eseq (eblock (er ?_)))))))
 have hlt:i < l.length:=by simpa using h1
 obtain ⟨a,ha⟩:=get_of_lt hlt
 have hd:=drop_cons ha
 refine hia (y:=.agg [B a.ref,I a.n]) rfl rfl (by omega) (by simp [ha,Word.enc,Word.cs]) rfl (hlda rfl rfl (lc rfl (lc rfl (ln rfl))) (hal (dc (dc (dc (dc (dc (dc (dc dn rfl) rfl) rfl) rfl) rfl) rfl) rfl) (hstl rfl rfl rfl rfl (Nlb rfl) (lc rfl (lc rfl (ln rfl))) (qk (kc rfl (kc rfl (kc rfl (kc rfl (kc rfl kn))))) (kc rfl (kc rfl kn)) (sqn (eseq (ereg (qp rfl (qp rfl (qb ?_))))))))))
 rintro (_ | _) h2
 ·refine qp J (zq5 J (qp J (qn (kq5 J) (kq1 J) (ecF J (eskip (bqn (sqn (ereg (hadd J J (i64w (by omega)) (qp J (qk (kq4 J) (kq1 J) ?_)))))))))))
  exact valid_l h hh l (i + 1) (by omega) hs (fun j h=>hX j (by rw [hd];simp_all [validF])) (fun h=>hR (by rw [hd];simp_all [validF]))
 refine qp J (qg J (hlda J J (lq2 J) (qg J (qp J (qg J (qp J (qg J (hcall J J J (find_c _ h _ hh) ?_))))))))
 rintro _ _ ⟨rfl,rfl⟩
 refine qg J (qp J (qb ?_))
 rintro (_ | _) h3
 ·refine qp J (qn (kq5 J) (kq1 J) (ecF J (eskip (bqn (sqn (ereg (hadd J J (i64w (by omega)) (qp J (qk (kq4 J) (kq1 J) ?_)))))))))
  exact valid_l h hh l (i + 1) (by omega) hs (fun j h=>hX j (by rw [hd];simp_all [validF])) (fun h=>hR (by rw [hd];simp_all [validF]))
 refine qp J (qn (kq5 J) (kq1 J) (ecT J (er (qp J (qn (kq1 J) kn (eret (bqr (sqr ?_))))))))
 exact hR (by rw [hd];simp_all [validF])
termination_by l.length - i
decreasing_by all_goals omega
theorem valid_c (s:Sg) (h:RH) (l:List Word) (hh:h.obs.length ≤ 2 ^ 40) (hs:l.length ≤ 2 ^ 40):HC p N119_ [.agg h.cs,words l] s (fun r s'=>r=[B (validF h.obs l)] ∧ s'=s):=by
 refine hcf J f119_ J ?_
 simp only [chainOf]
 refine er (hbox (dq2 J) J (lq2 J) (qp J (qn (kq2 J) (kq1 J) (eseq (er (pq3 J (qn (kq4 J) (kq1 J) (eblock ?_))))))))
 refine valid_l h hh l 0 (by omega) hs ?_ ?_
 ·intro j hj
  rw [List.drop_zero] at hj
  refine bqx (sqn (er (qp J (qn (kq1 J) kn (eret (fqr J ?_))))))
  exact ⟨by rw [hj];rfl,rfl⟩
 intro hj
 rw [List.drop_zero] at hj
 refine bqr (sqr (fqr J ?_))
 exact ⟨by rw [hj];rfl,rfl⟩
end Go.Sim.W
namespace Go.Sim.W
open Go Go.Sim
theorem end_c (s:Sg) (h:RH) (hs:h.obs.length ≤ 2 ^ 40) (hf:∀ o ∈ h.obs,o.fs.length ≤ 2 ^ 40 ∧ 0 ≤ o.at_ ∧ o.at_ ≤ 2 ^ 60):HC p N106_ [.agg h.cs] s (fun r s'=>r=[I (endF h.obs)] ∧ s'=s):=by
 refine hcf J f106_ J ?_
 simp only [chainOf]
 refine er (hbox (dc dn J) J (lq2 J) (qp J (qn (kq1 J) (kq1 J) (eseq (er (pq4 J (qb ?_)))))))
 rintro (_ | _) h1
 ·refine qn (kq2 J) (kq1 J) (ecF J (eskip (sqn (er (pq5 J ?_)))))
  have hl:h.obs ≠ []:=by intro e;simp [e] at h1
  have hp:1 ≤ h.obs.length:=by cases hh:h.obs <;> simp_all
  obtain ⟨o,ho⟩:=get_of_lt (l:=h.obs) (i:=h.obs.length - 1) (by omega)
  have hlast:h.obs.getLast?=some o:=by rw [List.getLast?_eq_getElem?,ho]
  obtain ⟨hf1,hf2,hf3⟩:=hf o (Lmg ho)
  refine hsub rfl rfl (i64w (by simp;omega)) ?_
  refine hia (y:=.agg o.cs) rfl rfl (by simp;omega) (by rw [Lgm,show (((h.obs.map HOb.enc).length:Int) - 1).toNat=h.obs.length - 1 from by simp,ho];rfl) rfl ?_
  refine hlda rfl rfl (lq3 rfl) (hal (dq10 rfl) (hstl rfl rfl rfl rfl (Nlb rfl) (lq3 rfl) (qn (kq1 rfl) (kq1 rfl) (er (pq5 rfl (hcall rfl rfl rfl (cells_c _ _ (by omega) (by simp at *;omega)) ?_))))))
  rintro _ _ ⟨rfl,rfl⟩
  refine hadd rfl rfl (i64w (by (have e:(o.fs.map Word.enc).length=o.fs.length:=List.length_map ..;omega))) (qp rfl (qk (kc rfl kn) kn (sqn (eret (fqr rfl ?_)))))
  first
  | (have e:h.obs=[]:=by simpa using h1
     exact ⟨by rw [e];rfl,rfl⟩)
  | (refine ⟨?_,rfl⟩
     simp only [endF,hlast]
     simp [AV.ers,AV.er,I])
 refine qn (kq2 J) (kq1 J) (ecT J (er (qp J (qn (kq1 J) kn (eret (sqr (fqr J ?_)))))))
 first
 | (have e:h.obs=[]:=by simpa using h1
    exact ⟨by rw [e];rfl,rfl⟩)
 | (refine ⟨?_,rfl⟩
    simp only [endF,hlast]
    simp [AV.ers,AV.er,I])
end Go.Sim.W
namespace Go.Sim.W
open Go Go.Sim
theorem unfl_w (l:List Word):unfl 2 l.length (flat (wcs l))=wcs l:=by
 induction l with
 | nil=>rfl
 | cons w l ih =>
   have e:flat (wcs (w :: l))=[B w.ref,I w.n] ++ flat (wcs l):=rfl
   rw [e,List.length_cons]
   show AV.agg _ :: unfl 2 l.length (flat (wcs l))=_
   rw [ih]
   rfl
theorem nts_w (l:List Word):AV.nts (flat (wcs l))=true:=by
 induction l with
 | nil=>rfl
 | cons w l ih =>
   have e:flat (wcs (w :: l))=B w.ref :: I w.n :: flat (wcs l):=rfl
   rw [e]
   simp only [AV.nts,ih,Bool.and_true]
   rfl
theorem upd2 {α:Type} (f:Nat → Option α) (g:Nat) (a b:Option α):upd (upd f g a) g b=upd f g b:=by
 funext j
 by_cases h:j=g
 ·subst h;rw [upd_same,upd_same]
 rw [upd_ne _ _ h,upd_ne _ _ h,upd_ne _ _ h]
theorem frz_w {S:Sg} {v:AV} {ws:List Word} (h:LM v ws S):∃ o m,frzC S v=some (.slice o 2 (wcs ws),{ S with mu:=m }) ∧ frzD 1 S v=some (.slice o 2 (wcs ws),{ S with mu:=m }) ∧ ∀ g,g ∉ tk v → m g=S.mu g:=by
 rcases h with ⟨rfl,o,rfl⟩ | ⟨g,rfl,h1,h2⟩
 ·exact ⟨o,S.mu,rfl,rfl,fun _ _=>rfl⟩
 have hl:(flat (wcs ws)).length=ws.length * 2:=by rw [flat_len (wcs_sz _),lw]
 have e:∀ S:Sg,S.mu g=some (flat (wcs ws)) → frzOf 2 S (.ms g 0 ws.length 2)=some (.slice .none 2 (wcs ws),{ S with mu:=upd S.mu g none }):=by
  intro S h1
  simp only [frzOf,h1,Obs,true_and]
  rw [if_pos (by decide),if_pos (by omega),List.drop_zero,List.take_of_length_le (by omega),unfl_w]
 refine ⟨.none,upd S.mu g none,e S h1,?_,fun g' hg=>upd_ne _ _ (by simpa [tk] using hg)⟩
 rw [frzD]
 simp only [h1,Obs,frzDL0']
 rw [if_pos ⟨trivial,nts_w ws⟩,e _ (upd_same _ _ _),upd2]
def NZ (v:AV) (l:List Int):Prop:=(l=[] ∧ v=nilL) ∨ v=ints l
theorem NZ.nl {v:AV} {l:List Int} (h:NZ v l) (S:Sg):NL v l S:=h.imp id .inr
theorem NZ.er {v:AV} {l:List Int} (h:NZ v l):v.er=v:=by rcases h with ⟨_,rfl⟩ | rfl <;> rfl
theorem frz_i {S:Sg} {v:AV} {l:List Int} (h:NM v l S):∃ x m,frzD 1 S v=some (x,{ S with mu:=m }) ∧ NZ x l ∧ ∀ g,g ∉ tk v → m g=S.mu g:=by
 rcases h with ⟨rfl,rfl⟩ | ⟨g,rfl,h1,h2⟩
 ·exact ⟨nilL,S.mu,rfl,.inl ⟨rfl,rfl⟩,fun _ _=>rfl⟩
 refine ⟨ints l,upd S.mu g none,?_,.inr J,fun g' hg=>upd_ne _ _ (by simpa [tk] using hg)⟩
 rw [frzD]
 simp only [h1,Obs,frzDL0']
 rw [if_pos ⟨trivial,nts_I l⟩]
 simp only [frzOf,upd_same,Obs,true_and]
 rw [if_pos (by decide),if_pos (by simp),List.drop_zero,List.take_of_length_le (by simp),upd2,unfl_I]
theorem KL.frz {s S:Sg} {X:List Nat} {v:AV} {m:Nat → Option (List AV)} (h:KL X s S) (hv:∀ g ∈ tk v,g ∈ X ∨ s.mn ≤ g) (hm:∀ g,g ∉ tk v → m g=S.mu g):KL X s { S with mu:=m } :=
 ⟨⟨h.e.nx,h.e.ob,h.e.gn,h.e.gl,h.e.Q⟩,h.mn,fun g hg hx=>(hm g fun ht=>(hv g ht).elim hx fun h'=>by omega).trans (h.mu g hg hx)⟩
theorem eretz_env {c:Caller} {E:Nat → Option TV} {L:Nat → Option (List AV)} {n:Nat} {v:Nat → Bool} {D:List (Nat × List AV)} {S S':Sg} {Q:Ex → Fr → Prop} {k d:Nat} {x y:AV} (h0:L d=none) (h1:E d=some (.val x)) (h2:frzD k S x=some (y,S'))
 (h:Q .ret ⟨upd E d (some (.val y)),L,n,v,D,S'⟩):EX c (.retz k d) ⟨E,L,n,v,D,S⟩ Q:=eretz (by simp only [retzF,h0,h1,h2];rfl) h
theorem frzC_I (S:Sg) (n:Int):frzC S (I n)=some (I n,S):=rfl
theorem I_cells (n:Int):(I n).cells=[I n]:=rfl
theorem LM.c1 {v:AV} {ws:List Word} {S:Sg} (h:LM v ws S):v.cells=[v]:=by
 rcases h with ⟨_,o,rfl⟩ | ⟨g,rfl,_⟩ <;> rfl
theorem HInv.ends {h:RH} (k:HInv h):∀ o ∈ h.obs,o.fs.length ≤ 2 ^ 40 ∧ 0 ≤ o.at_ ∧ o.at_ ≤ 2 ^ 60:=by
 intro o ho
 have hf:=k.f o ho
 have hle:=k.le
 have ha:=k.ad
 obtain ⟨l1,l2,e⟩:=List.append_of_mem ho
 rw [e] at ha hle
 have h1:=(addrs_app.1 ha).2.1
 rw [cells_app,List.length_append] at hle
 omega
theorem hapK0 {c:Caller} {l:List AIns} {E:Nat → Option TV} {L:Nat → Option (List AV)} {n:Nat} {v:Nat → Bool} {D:List (Nat × List AV)} {S:Sg} {Q:Fr → Prop} {d sz by_:Nat} {s x:AO} {o':Own} {ys:List AV}
 (h1:evV E s=some (.slice .full sz [])) (h2:evV E x=some (.slice o' sz ys)) (hlen:ys.length * by_ ≤ 2 ^ 47)
 (k:∀ o1 n1 v1,Can o1 v1 → HL c l ⟨upd E d (some (.val (.slice o1 sz ys))),L,n1,v1,D,S⟩ Q):HL c (⟨some d,none,.app sz by_ s x⟩ :: l) ⟨E,L,n,v,D,S⟩ Q:=by
 cases ys with
 | nil=>exact hap0 h1 h2 rfl (k .full n v trivial)
 | cons y ys=>exact hapF h1 h2 (by simp) (by simpa using hlen) fun v' a b=>k (.tip n) (n + 1) v' a
theorem HInv.n40 {h:RH} (k:HInv h):h.obs.length ≤ 2 ^ 40:=Nat.le_trans k.n (by decide)
theorem copy_c (s:Sg) (l:List Word) (hl:l.length ≤ 2 ^ 40):HC p N105_ [words l] s (fun r s'=>∃ v,r=[v] ∧ LM v l s' ∧ MX [] s s' ∧ ∀ g ∈ tk v,s.mn ≤ g):=by
 refine hcf J f105_ J ?_
 simp only [chainOf]
 refine er (qp J (qn (kq1 J) kn (er (hbsl J J (ln J) (qp J ?_)))))
 obtain ⟨u,S1,w1,w2,w3,w4⟩:=appm_e (sz:=2) (by_:=16) (b:=.slice .full 2 []) (xs:=[]) (x:=words l) (ys:=wcs l) (S:=s) ⟨rfl,.inl ⟨rfl,rfl⟩⟩ ⟨wcs_sz l,.inl ⟨_,rfl⟩⟩ (by simp [lw];omega)
 refine hwop J w1 (qp J (qn (kq1 J) kn (eret (fqr J ?_))))
 exact ⟨u.er,rfl,(WL.lm (by simpa using w2)).ere,w3,fun g hg=>(w4 g (by rwa [tk_er] at hg)).elim (fun h=>by cases h) id⟩
theorem alloc17_c (s:Sg) (h:RH) (tag:Int) (fs:List Word) (hi:HInv h) (h0:0 ≤ tag ∧ tag ≤ 100000) (hf:fs.length ≤ 1024) (hv:validW h.obs fs=true):HC p N107_ [.agg h.cs,I tag,words fs] s (fun r s'=>r=(if ((cellsF h.obs).length:Int) + 1 + fs.length > h.size then [.agg h.cs,I 0,I 170] else [.agg (h.push tag fs).cs,I (cellsF h.obs).length,I 0]) ∧ KL [] s s'):=by
 have hle:=hi.le
 have hsz:=hi.sz
 have he:=endF_eq hi.ad
 have hv2:validF h.obs fs=true:=by rw [validF_eq];exact hv
 have hfl:(fs.map Word.enc).length=fs.length:=List.length_map ..
 refine hcf J f107_ J ?_
 simp only [chainOf]
 refine er (hbox (dq3 J) J (lq2 J) (hal (dq4 J) (pq2 J (qn (kq4 J) (kq2 J) (eseq (eblock (er (pq2 J (qb ?_)))))))))
 rintro (_ | _) h1
 refine qp J (qg J (qp J (qg J (qp J (qb ?_)))))
 rintro (_ | _) h2
 refine pq2 J (qg J (qp J (qg J (qp J (qg J (qp J (qb ?_)))))))
 rintro (_ | _) h3
 refine pq2 J (qn (kq5 J) (kq2 J) (ecF J (er (hlda J J (lq2 J) (qp J (hcall J J J (valid_c _ h fs hi.n40 (by omega)) ?_))))))
 rintro _ _ ⟨rfl,rfl⟩
 refine qb ?_
 rintro (_ | _) h4
 simp [hv2] at h4
 refine pq2 J (qn (kq5 J) (kq2 J) (ecF J (er (hlda J J (lq2 J) (hcall J J J (end_c _ h hi.n40 hi.ends) ?_)))))
 rintro _ _ ⟨rfl,rfl⟩
 refine pq2 J (hcall J J J (cells_c _ _ (by omega) (by omega)) ?_)
 rintro _ _ ⟨rfl,rfl⟩
 refine hadd J J (i64w (by omega)) (pq3 J (qb ?_))
 rintro (_ | _) h5
 refine qp J (qn (kq5 J) (kq2 J) (ecF J (eskip (bqn (sqn (er (hlda J J (lq2 J) (hcall J J J (end_c _ h hi.n40 hi.ends) ?_))))))))
 rintro _ _ ⟨rfl,rfl⟩
 refine qp rfl (qk (kc rfl (kc rfl (kc rfl (kc rfl (kc rfl kn))))) (kc rfl (kc rfl kn)) (sqn (eseq (ereg (hbsl rfl rfl (ln rfl) (qp rfl (qp rfl (hapK0 rfl rfl (by have:=hi.n;simp;omega) ?_))))))))
 intro oa na va hva
 refine pq3 J (hcall J J J (copy_c _ fs (by omega)) ?_)
 rintro _ S1 ⟨v1,rfl,c1,c2,c3⟩
 obtain ⟨o1,m1,w1,_,w2⟩:=frz_w c1
 refine hwop rfl (r:=.agg [I (endF h.obs),I tag,.slice o1 2 (wcs fs)]) (s':={ S1 with mu:=m1 }) (by simp [wopOf,zipP,fillA,frzV,frzL,frzC_I,I_cells,w1,c1.c1]) (hbsl rfl rfl (lc rfl (ln rfl)) (hapC rfl rfl hva (by simp) (by have:=hi.n;simp;omega) (r:=(h.push tag fs).obs.map HOb.enc) (by simp [RH.push,HOb.enc,HOb.cs,he,AV.ers,AV.er,AV.erT];rfl) ?_))
 intro v' hv1 hv2
 refine qp J (qn (kq4 J) (kq2 J) (er (pq3 J (hbuild J J (lq2 J) (qp J (hstl J J J J (Nlb J) (lq2 J) (pq2 J (qn (kq3 J) (kq1 J) (eret (fqr J ?_))))))))))
 rotate_left
 refine qp J (qn (kq5 J) (kq2 J) (ecT J (er (hlda J J (lq2 J) (hstl J J J J (Nlb J) (lq2 J) (pq2 J (qn (kq3 J) (kq1 J) (eret (bqr (sqr (fqr J ?_)))))))))))
 rotate_left
 simp at h3
 omega
 simp at h2
 omega
 simp at h1
 omega
 all_goals
  first
  | exact ⟨by rw [if_pos (by simp at *;omega)];rfl,KL.refl _ _⟩
  | exact ⟨by rw [if_neg (by simp at *;omega)];simp [AV.ers,AV.er,RH.cs,RH.push,he,I,HOb.enc],(c2.kl).frz (fun g hg=>.inr (c3 g hg)) w2⟩
def fieldsAt (obs:List HOb) (x:Int):List Word:=match obAt obs x with
 | some o=>o.fs
 | none=>[]
def reachF (obs:List HOb):Nat → Nat → List Int → List Int
 | 0,_,l=>l
 | k + 1,i,l=>match l[i]? with
   | none=>l
   | some x=>reachF obs k (i + 1) (foundF l (fieldsAt obs x))
def reachR (obs:List HOb) (roots:List Word):List Int:=reachF obs (obs.length + 1) 0 (foundF [] roots)
structure AD (obs:List HOb) (l:List Int):Prop where
 nd:l.Nodup
 has:∀ x ∈ l,hasF obs x=true
theorem AD.len {obs:List HOb} {l:List Int} (h:AD obs l):l.length ≤ obs.length:=by
 have:=nd_len l (obs.map (·.at_)) h.nd fun x hx=>by
  obtain ⟨o,ho⟩:=Option.isSome_iff_exists.1 (h.has x hx)
  exact List.mem_map.2 ⟨o,obAt_mem ho,obAt_at ho⟩
 simpa using this
theorem placeF_lt (x:Int) (l:List Int) (i:Nat):placeF x i l < 0 ↔ x ∉ l:=by
 induction l generalizing i with
 | nil=>simp [placeF]
 | cons a l ih =>
   unfold placeF
   split
   ·rename_i h;subst h;simp
   rename_i h
   rw [ih]
   simp [Ne.symm h]
theorem AD.found {obs:List HOb} {l:List Int} (h:AD obs l) {ws:List Word} (hv:validW obs ws=true):AD obs (foundF l ws):=by
 induction ws generalizing l with
 | nil=>exact h
 | cons w ws ih =>
   obtain ⟨h1,h2⟩:=validW_cons.1 hv
   unfold foundF
   refine ih ?_ h2
   split
   ·rename_i hc
    have hn:=(placeF_lt w.n l 0).1 hc.2
    refine ⟨List.nodup_append.2 ⟨h.nd,by simp,fun a ha b hb e=>?_⟩,fun x hx=>?_⟩
    ·rw [List.mem_singleton.1 hb] at e
     exact hn (e ▸ ha)
    rcases List.mem_append.1 hx with hx | hx
    ·exact h.has x hx
    rw [List.mem_singleton.1 hx];exact h1 hc.1
   exact h
theorem fields_valid {h:RH} (hi:HInv h) (x:Int):validW h.obs (fieldsAt h.obs x)=true:=by
 unfold fieldsAt
 split
 ·rename_i o ho;exact hi.v o (obAt_mem ho)
 rfl
theorem obF {obs:List HOb} {x:Int} (h:hasF obs x=true):∃ (k:Nat) (o:HOb),findF x 0 obs=(k:Int) ∧ obs[k]?=some o ∧ obAt obs x=some o ∧ fieldsAt obs x=o.fs:=by
 obtain ⟨o,ho⟩:=Option.isSome_iff_exists.1 h
 obtain ⟨k,h1,h2⟩:=findF_some (i:=0) ho
 exact ⟨k,o,by rw [h1,Nat.zero_add],h2,ho,by rw [fieldsAt,ho]⟩
theorem reach_l (h:RH) (hi:HInv h) (S0:Sg) (k:Nat) (i:Nat) (u:AV) (l:List Int) (hk:h.obs.length < k + i) (ha:AD h.obs l) {n:Nat} {v:Nat → Bool} {D:List (Nat × List AV)} {S:Sg} {Q:Ex → Fr → Prop} (hu:NM u l S) (hK:KL [] S0 S) (ht:∀ g ∈ tk u,S0.mn ≤ g)
 (hX:∀ j u' S',NM u' (reachF h.obs k i l) S' → KL [] S0 S' → (∀ g ∈ tk u',S0.mn ≤ g) → Q (.exit 0) ⟨upd (upd (upd (upd ((fun _=>none)) 12 (some (.val (B false)))) 6 (some (.val (I j)))) 5 (some (.val u'))) 2 (some (.loc 2 0)),upd ((fun _=>none)) 2 (some (h.cs)),n,v,D,S'⟩):EX (callL p) (.loop F98_l1) ⟨upd (upd (upd ((fun _=>none)) 6 (some (.val (I i)))) 5 (some (.val u))) 2 (some (.loc 2 0)),upd ((fun _=>none)) 2 (some (h.cs)),n,v,D,S⟩ Q:=by
 refine eloop (eseq (er (pq2 J (hlenA J hu.nl.len (qp J (qb ?_))))))
 rintro (_ | _) h1
 ·refine qn (kq4 J) (kq1 J) (ecF J (eexit (sqx ?_)))
  have he:reachF h.obs k i l=l:=by
   have hn:l[i]?=none:=List.getElem?_eq_none (by simpa using h1)
   cases k with
   | zero=>rfl
   | succ k=>rw [reachF,hn]
  exact hX _ _ _ (by rw [he];exact hu) hK ht
 refine qn (kq4 J) (kq1 J) (ecT J (eskip (sqn (eseq (eblock (ereg (pq3 J (hlda J J (lq2 J) (pq2 J ?_)))))))))
 have hlt:i < l.length:=by simpa using h1
 have hlo:=ha.len
 have hno:=hi.n
 obtain ⟨k,rfl⟩:∃ k',k=k' + 1:=⟨k - 1,by omega⟩
 obtain ⟨x,hx⟩:=get_of_lt hlt
 obtain ⟨q,hq1,hq2⟩:=hu.nl.at_ hx
 obtain ⟨kf,o,e1,e2,e3,e4⟩:=obF (ha.has x (Lmg hx))
 refine hiaN J J hq1 (hldN J hq2 (hcall J J J (find_c _ h _ hi.n40) ?_))
 rintro _ _ ⟨rfl,rfl⟩
 refine hia (y:=.agg o.cs) rfl rfl (by omega) (by rw [e1,Lgm,Int.toNat_natCast,e2];rfl) rfl ?_
 refine qp rfl (qp rfl (hcall rfl rfl (by simp [AV.ers,hu.er,AV.er]) (found_c _ u l o.fs hu (by omega) (by have:=hi.f o (Lmg e2);omega)) ?_))
 rintro _ S2 ⟨u2,rfl,w2,w3,w4⟩
 rw [← e4] at w2
 refine qp J (qk (kq3 J) (kq1 J) (bqn (sqn (ereg (qp J (hadd J J (i64w (by omega)) (qp J (qk (kq3 J) (kq1 J) ?_))))))))
 exact reach_l h hi S0 k (i + 1) u2 _ (by omega) (ha.found (fields_valid hi x)) w2 (hK.trans w3 (fun g hg=>.inr (ht g hg))) (fun g hg=>(w4 g hg).elim (ht g) fun h'=>Nat.le_trans hK.mn h') (fun j u' S' a b c=>hX j u' S' (by rw [reachF,hx];exact a) b c)
termination_by k
decreasing_by all_goals omega
theorem reach_c (s:Sg) (h:RH) (hi:HInv h) (roots:List Word) (hv:validW h.obs roots=true) (hr:roots.length ≤ 2 ^ 38):HC p N98_ [.agg h.cs,words roots] s (fun r s'=>∃ u,r=[u] ∧ NZ u (reachR h.obs roots) ∧ KL [] s s'):=by
 refine hcf J f98_ J ?_
 simp only [chainOf]
 refine er (hbox (dq2 J) J (lq2 J) (qp J (qn (kq2 J) (kq1 J) (er (qp J (hcall J J J (found_c _ nilL [] roots (.inl ⟨J,J⟩) (by simp) hr) ?_))))))
 rintro _ S1 ⟨u1,rfl,c1,c2,c3⟩
 refine qp J (qn (kq2 J) (kq1 J) (eseq (er (qp J (qn (kq3 J) (kq1 J) (eblock (reach_l h hi s (h.obs.length + 1) 0 u1 _ (by omega) (AD.found ⟨List.nodup_nil,fun x hx=>by cases hx⟩ hv) c1 c2 (fun g hg=>(c3 g hg).elim (fun h'=>by cases h') id) ?_)))))))
 intro j u' S' d1 d2 d3
 refine bqx (sqn (er (pq2 J (qn (kq1 J) kn ?_))))
 obtain ⟨x2,m2,w1,w2,w3⟩:=frz_i d1
 refine eretz_env J J w1 (fqr J ?_)
 exact ⟨x2,by rw [show AV.ers [x2]=[x2] from by simp [AV.ers,w2.er]],w2,d2.frz (fun g hg=>.inr (d3 g hg)) w3⟩
def mvd (old to:List Int) (w:Word):Word:=if w.ref=true then ⟨true,(to[(placeF w.n 0 old).toNat]?).getD 0⟩ else w
def sumF (obs:List HOb) (l:List Int):Int:=(l.map fun x=>(1 + (fieldsAt obs x).length:Int)).sum
def tosF (obs:List HOb) (l:List Int) (n:Nat):List Int:=(List.range n).map fun j=>sumF obs (l.take j)
def newO (obs:List HOb) (l:List Int) (j:Nat):HOb:=match l[j]? with
 | none=>⟨0,0,[]⟩
 | some x=>match obAt obs x with
   | none=>⟨0,0,[]⟩
   | some o=>⟨sumF obs (l.take j),o.tag,o.fs.map (mvd l (tosF obs l l.length))⟩
def collectF (h:RH) (roots:List Word):RH × List Word :=
 let l:=reachR h.obs roots
 (⟨h.size,(List.range l.length).map (newO h.obs l)⟩,roots.map (mvd l (tosF h.obs l l.length)))
theorem placeF_ge {x:Int} {l:List Int} (i:Nat) (h:x ∈ l):∃ k:Nat,k < l.length ∧ placeF x i l=((i + k:Nat):Int) ∧ l[k]?=some x:=by
 induction l generalizing i with
 | nil=>cases h
 | cons a l ih =>
   by_cases e:a=x
   ·exact ⟨0,by simp,by rw [placeF,if_pos e];rfl,by simp [e]⟩
   rcases List.mem_cons.1 h with h | h
   ·exact absurd h.symm e
   obtain ⟨k,h1,h2,h3⟩:=ih (i + 1) h
   exact ⟨k + 1,by simp;omega,by rw [placeF,if_neg e,h2];congr 1;omega,by simpa using h3⟩
theorem sum_take {obs:List HOb} {l:List Int} {i:Nat} {x:Int} (h:l[i]?=some x):sumF obs (l.take (i + 1))=sumF obs (l.take i) + (1 + (fieldsAt obs x).length):=by
 rw [sumF,List.take_add_one,h]
 simp [sumF]
theorem sum_le {h:RH} (hi:HInv h):∀ l:List Int,0 ≤ sumF h.obs l ∧ sumF h.obs l ≤ l.length * 1025
 | []=>by simp [sumF]
 | x :: l=>by
   have:=sum_le hi l
   have hf:(fieldsAt h.obs x).length ≤ 1024:=by
    unfold fieldsAt
    split
    ·rename_i o ho;exact hi.f o (obAt_mem ho)
    simp
   simp only [sumF,List.map_cons,List.sum_cons,List.length_cons] at this ⊢
   omega
theorem moved_l (ws:List Word) (u:AV) (old to:List Int) (hu:NZ u old) (hm:∀ w ∈ ws,w.ref=true → w.n ∈ old) (hto:to.length=old.length) (hw:ws.length ≤ 2 ^ 38) (ho:old.length ≤ 2 ^ 38) (o:Own) (i:Nat) (hi:i ≤ ws.length) {n:Nat} {v:Nat → Bool} {D:List (Nat × List AV)} {S:Sg} {Q:Ex → Fr → Prop} (hc:Can o v)
 (hX:∀ j n' v' o',Q (.exit 0) ⟨upd (upd (upd (upd (upd (upd (upd ((fun _=>none)) 13 (some (.val (B false)))) 12 (some (.val (I j)))) 11 (some (.val (I (ws.map Word.enc).length)))) 10 (some (.val (words ws)))) 7 (some (.val (.slice o' 2 (wcs (ws.map (mvd old to))))))) 2 (some (.val (ints to)))) 1 (some (.val u)),(fun _=>none),n',v',D,S⟩):EX (callL p) (.loop F101_l1) ⟨upd (upd (upd (upd (upd (upd ((fun _=>none)) 12 (some (.val (I i)))) 11 (some (.val (I (ws.map Word.enc).length)))) 10 (some (.val (words ws)))) 7 (some (.val (.slice o 2 (wcs ((ws.take i).map (mvd old to))))))) 2 (some (.val (ints to)))) 1 (some (.val u)),(fun _=>none),n,v,D,S⟩ Q:=by
 refine eloop (er (qp J (qb ?_)))
 rintro (_ | _) h1
 refine qn (kq7 J) kn (eseq (ecF J (eexit (sqx ?_))))
 have he:ws.take i=ws:=List.take_of_length_le (by simpa using h1)
 rw [he]
 exact hX _ _ _ _
 refine qn (kq7 J) kn (eseq (ecT J (eskip (sqn (eseq (eblock (er ?_)))))))
 have hlt:i < ws.length:=by simpa using h1
 obtain ⟨w,hx⟩:=get_of_lt hlt
 have hmw:=hm w (Lmg hx)
 refine hia (y:=.agg [B w.ref,I w.n]) rfl rfl (by omega) (by simp [hx,Word.enc,Word.cs]) rfl (hlda rfl rfl (lc rfl (lc rfl (ln rfl))) (hal (dc (dc (dc (dc (dc (dc (dc (dc (dc dn rfl) rfl) rfl) rfl) rfl) rfl) rfl) rfl) rfl) (hstl rfl rfl rfl rfl (Nlb rfl) (lc rfl (lc rfl (ln rfl))) (qk (kc rfl (kc rfl (kc rfl (kc rfl (kc rfl (kc rfl (kc rfl kn))))))) (kc rfl kn) (sqn (eseq (eseq (ereg (qp rfl (qp rfl (qb ?_)))))))))))
 rintro (_ | _) h2
 refine qn (kq8 J) (kq1 J) (ecF J (eskip (sqn (ereg (qp J (hlda J J (lq2 J) (hbsl J J (lq1 J) ?_)))))))
 rotate_left
 refine qn (kq8 J) (kq1 J) (ecT J (ereg (pq4 J (hcall J J (by simp [AV.ers,hu.er,AV.er,I]) (place_c _ u old w.n (hu.nl _) (by omega)) ?_))))
 rintro _ _ ⟨rfl,rfl⟩
 obtain ⟨kp,p1,p2,p3⟩:=placeF_ge 0 (hmw (by simpa using h2))
 obtain ⟨t1,ht1⟩:=get_of_lt (l:=to) (i:=kp) (by omega)
 rw [Nat.zero_add] at p2
 refine hia (y:=I t1) rfl rfl (by omega) (by rw [p2,Int.toNat_natCast,Lgm,ht1];rfl) rfl ?_
 refine pq2 J (hstl J J J J (Nlb J) (lq2 J) (qn (kq7 J) (kq1 J) (ereg (qp J (hlda J J (lq2 J) (hbsl J J (lq1 J) ?_))))))
 rotate_left
 all_goals
  first
  | (have hr:w.ref=true:=by simpa using h2
     have hmv:mvd old to w=⟨true,t1⟩:=by rw [mvd,if_pos hr,p2,Int.toNat_natCast,ht1];rfl
     refine hapC rfl rfl hc (by simp) (by simp [lw];omega) (r:=wcs ((ws.take (i + 1)).map (mvd old to))) (by rw [List.take_add_one,hx];simp [hmv,wcs,Word.enc,Word.cs,hr,B];rfl) ?_
     intro v' hv1 hv2)
  | (have hr:w.ref=false:=by simpa using h2
     have hmv:mvd old to w=w:=by rw [mvd,if_neg (by simp [hr])]
     refine hapC rfl rfl hc (by simp) (by simp [lw];omega) (r:=wcs ((ws.take (i + 1)).map (mvd old to))) (by rw [List.take_add_one,hx];simp [hmv,wcs,Word.enc,Word.cs,hr,B];rfl) ?_
     intro v' hv1 hv2)
  refine qp J (qk (kq6 J) kn (bqn (sqn (ereg (hadd J J (i64w (by omega)) (qp J (qk (kq6 J) kn ?_)))))))
  exact moved_l ws u old to hu hm hto hw ho (.tip _) (i + 1) (by omega) hv1 hX
termination_by ws.length - i
decreasing_by all_goals omega
theorem moved_c (s:Sg) (ws:List Word) (u:AV) (old to:List Int) (hu:NZ u old) (hm:∀ w ∈ ws,w.ref=true → w.n ∈ old) (hto:to.length=old.length) (hw:ws.length ≤ 2 ^ 38) (ho:old.length ≤ 2 ^ 38)  : HC p N101_ [words ws,u,ints to] s (fun r s'=>r=[words (ws.map (mvd old to))] ∧ s'=s):=by
 refine hcf J f101_ J ?_
 simp only [chainOf]
 refine er (qp J (qn (kq3 J) kn (er (qp J (qn (kq4 J) kn (eseq (er (pq3 J (qn (kq6 J) kn (eblock (moved_l ws u old to hu hm hto hw ho .full 0 (by omega) trivial ?_)))))))))))
 intro j n' v' o'
 refine bqx (sqn (er (pq2 J (qn (kq1 J) kn (eret (fqr J ?_))))))
 exact ⟨rfl,rfl⟩
theorem tosF_len (obs:List HOb) (l:List Int) (n:Nat):(tosF obs l n).length=n:=by simp [tosF]
theorem tosF_succ (obs:List HOb) (l:List Int) (n:Nat):tosF obs l (n + 1)=tosF obs l n ++ [sumF obs (l.take n)]:=by simp [tosF,List.range_succ]
theorem tosF_get {obs:List HOb} {l:List Int} {n i:Nat} (h:i < n):(tosF obs l n)[i]?=some (sumF obs (l.take i)):=by simp [tosF,h]
theorem newO_at {obs:List HOb} {l:List Int} {j:Nat} {x:Int} {o:HOb} (h:l[j]?=some x) (h2:obAt obs x=some o):newO obs l j=⟨sumF obs (l.take j),o.tag,o.fs.map (mvd l (tosF obs l l.length))⟩:=by simp only [newO,h,h2]
theorem validW_mem {obs:List HOb} {l:List Word} (h:validW obs l=true) {w:Word} (hw:w ∈ l) (hr:w.ref=true):hasF obs w.n=true:=validW_iff.1 h w hw hr
theorem col1 (h:RH) (hi:HInv h) (roots:List Word) (u:AV) (l:List Int) (hu:NZ u l) (ha:AD h.obs l) (o:Own) (i:Nat) (hil:i ≤ l.length) {n:Nat} {v:Nat → Bool} {D:List (Nat × List AV)} {S:Sg} {Q:Ex → Fr → Prop} (hc:Can o v)
 (hX:∀ j n' v' o',Q (.exit 0) ⟨upd (upd (upd (upd (upd (upd (upd (upd (upd (upd ((fun _=>none)) 21 (some (.val (B false)))) 20 (some (.val (I j)))) 19 (some (.val (I l.length)))) 18 (some (.val u))) 8 (some (.val (I (sumF h.obs l))))) 7 (some (.val (.slice o' 1 ((tosF h.obs l l.length).map I))))) 6 (some (.val u))) 4 (some (.loc 4 0))) 2 (some (.loc 2 0))) 1 (some (.val (words roots))),upd (upd ((fun _=>none)) 4 (some ([I 0,.slice .full 3 []]))) 2 (some (h.cs)),n',v',D,S⟩):EX (callL p) (.loop F65_l1) ⟨upd (upd (upd (upd (upd (upd (upd (upd (upd ((fun _=>none)) 20 (some (.val (I i)))) 19 (some (.val (I l.length)))) 18 (some (.val u))) 8 (some (.val (I (sumF h.obs (l.take i)))))) 7 (some (.val (.slice o 1 ((tosF h.obs l i).map I))))) 6 (some (.val u))) 4 (some (.loc 4 0))) 2 (some (.loc 2 0))) 1 (some (.val (words roots))),upd (upd ((fun _=>none)) 4 (some ([I 0,.slice .full 3 []]))) 2 (some (h.cs)),n,v,D,S⟩ Q:=by
 refine eloop (er (qp J (qb ?_)))
 rintro (_ | _) h1
 ·refine qn (kq10 J) (kq2 J) (eseq (ecF J (eexit (sqx ?_))))
  obtain rfl:i=l.length:=by have:¬ i < l.length:=by simpa using h1
                            omega
  rw [List.take_length]
  exact hX _ _ _ _
 refine qn (kq10 J) (kq2 J) (eseq (ecT J (eskip (sqn (eseq (eblock (er ?_)))))))
 have hlt:i < l.length:=by simpa using h1
 obtain ⟨x,hx⟩:=get_of_lt hlt
 obtain rfl:u=ints l:=by
  rcases hu with ⟨rfl,_⟩ | e
  ·cases hlt
  exact e
 have hsum:=sum_take (obs:=h.obs) hx
 have hlo:=ha.len
 have hno:=hi.n
 have hsl:=sum_le hi (l.take i)
 have htl:(l.take i).length ≤ l.length:=by rw [List.length_take];omega
 obtain ⟨kf,ob,e1,e2,e3,e4⟩:=obF (ha.has x (Lmg hx))
 have hfs:=hi.f ob (Lmg e2)
 refine hia (y:=I x) rfl rfl (by omega) (by simp [hx]) rfl (qp rfl (qp rfl (qk (kc rfl (kc rfl (kc rfl (kc rfl (kc rfl (kc rfl (kc rfl (kc rfl (kc rfl (kc rfl kn)))))))))) (kc rfl (kc rfl kn)) (sqn (eseq (ereg (qp rfl (qp rfl (hbsl rfl rfl (lc rfl (ln rfl)) (hapC rfl rfl hc (by simp) (by simp [tosF_len];omega) (r:=(tosF h.obs l (i + 1)).map I) (by rw [tosF_succ];simp [AV.ers,AV.erT,AV.er,I]) ?_))))))))))
 intro v' hv1 hv2
 refine qp J (qn (kq10 J) (kq2 J) (ereg (pq3 J (hlda J J (lq2 J) (qp J (hcall J J J (find_c _ h _ hi.n40) ?_))))))
 rintro _ _ ⟨rfl,rfl⟩
 rw [e1]
 refine hia (y:=.agg ob.cs) rfl rfl (by omega) (by rw [Lgm,Int.toNat_natCast,e2];rfl) rfl ?_
 refine pq3 rfl (hcall rfl rfl rfl (cells_c _ _ (by omega) (by simp at *;omega)) ?_)
 rintro _ _ ⟨rfl,rfl⟩
 refine hadd rfl rfl (r:=sumF h.obs (l.take (i + 1))) ((i64w (by simp;omega)).trans (by rw [hsum,e4];simp)) (qp rfl (qk (kc rfl (kc rfl (kc rfl (kc rfl (kc rfl (kc rfl (kc rfl (kc rfl (kc rfl kn))))))))) (kc rfl (kc rfl kn)) (bqn (sqn (ereg (hadd rfl rfl (i64w (by omega)) (qp rfl (qk (kc rfl (kc rfl (kc rfl (kc rfl (kc rfl (kc rfl (kc rfl (kc rfl (kc rfl kn))))))))) (kc rfl (kc rfl kn)) ?_))))))))
 exact col1 h hi roots _ l hu ha (.tip _) (i + 1) (by omega) hv1 hX
termination_by l.length - i
decreasing_by all_goals omega
theorem col2 (h:RH) (hi:HInv h) (roots:List Word) (u:AV) (l:List Int) (hu:NZ u l) (ha:AD h.obs l) (hm:∀ x ∈ l,∀ w ∈ fieldsAt h.obs x,w.ref=true → w.n ∈ l) (o7 o:Own) (i:Nat) (hil:i ≤ l.length) {n:Nat} {v:Nat → Bool} {D:List (Nat × List AV)} {S:Sg} {Q:Ex → Fr → Prop} (hc:Can o v)
 (hX:∀ j n' v' o',Q (.exit 2) ⟨upd (upd (upd (upd (upd (upd (upd (upd (upd (upd ((fun _=>none)) 47 (some (.val (B false)))) 46 (some (.val (I j)))) 45 (some (.val (I l.length)))) 44 (some (.val u))) 11 (some (.loc 11 0))) 7 (some (.val (.slice o7 1 ((tosF h.obs l l.length).map I))))) 6 (some (.val u))) 4 (some (.loc 4 0))) 2 (some (.loc 2 0))) 1 (some (.val (words roots))),upd (upd (upd ((fun _=>none)) 11 (some ([I h.size,.slice o' 3 (((List.range l.length).map (newO h.obs l)).map HOb.enc)]))) 4 (some ([I 0,.slice .full 3 []]))) 2 (some (h.cs)),n',v',D,S⟩):EX (callL p) (.loop F65_l2) ⟨upd (upd (upd (upd (upd (upd (upd (upd (upd ((fun _=>none)) 46 (some (.val (I i)))) 45 (some (.val (I l.length)))) 44 (some (.val u))) 11 (some (.loc 11 0))) 7 (some (.val (.slice o7 1 ((tosF h.obs l l.length).map I))))) 6 (some (.val u))) 4 (some (.loc 4 0))) 2 (some (.loc 2 0))) 1 (some (.val (words roots))),upd (upd (upd ((fun _=>none)) 11 (some ([I h.size,.slice o 3 (((List.range i).map (newO h.obs l)).map HOb.enc)]))) 4 (some ([I 0,.slice .full 3 []]))) 2 (some (h.cs)),n,v,D,S⟩ Q:=by
 refine eloop (er (qp J (qb ?_)))
 rintro (_ | _) h1
 ·refine qn (kq10 J) (kq3 J) (eseq (ecF J (eexit (sqx ?_))))
  obtain rfl:i=l.length:=by have:¬ i < l.length:=by simpa using h1
                            omega
  exact hX _ _ _ _
 refine qn (kq10 J) (kq3 J) (eseq (ecT J (eskip (sqn (eseq (eblock (er (qp J ?_))))))))
 have hlt:i < l.length:=by simpa using h1
 obtain ⟨x,hx⟩:=get_of_lt hlt
 obtain rfl:u=ints l:=by
  rcases hu with ⟨rfl,_⟩ | e
  ·cases hlt
  exact e
 have hlo:=ha.len
 have hno:=hi.n
 obtain ⟨kf,ob,e1,e2,e3,e4⟩:=obF (ha.has x (Lmg hx))
 have hfs:=hi.f ob (Lmg e2)
 have hmx:=hm x (Lmg hx)
 rw [e4] at hmx
 have hno2:=newO_at (obs:=h.obs) hx e3
 refine hia (y:=I x) rfl rfl (by omega) (by simp [hx]) rfl (qp rfl (qp rfl (qp rfl (qk (kc rfl (kc rfl (kc rfl (kc rfl (kc rfl (kc rfl (kc rfl (kc rfl (kc rfl (kc rfl (kc rfl kn))))))))))) (kc rfl (kc rfl (kc rfl kn))) (sqn (eseq (ereg_1 (dc (dc (dc (dc (dc (dc (dc (dc (dc (dc (dc dn rfl) rfl) rfl) rfl) rfl) rfl) rfl) rfl) rfl) rfl) rfl) (qp rfl (qp rfl (hlda rfl rfl (lc rfl (lc rfl (ln rfl))) (qp rfl (hcall rfl rfl rfl (find_c _ h _ hi.n40) ?_))))))))))))
 rintro _ _ ⟨rfl,rfl⟩
 rw [e1]
 refine hia (y:=.agg ob.cs) rfl rfl (by omega) (by rw [Lgm,Int.toNat_natCast,e2];rfl) rfl ?_
 refine hlda J J (lq3 J) (hal (dc (dc (dq16 J) J) J) (hstl J J J J (Nlb J) (lq3 J) (qn (kq11 J) (kq4 J) (ereg (pq4 J ?_)))))
 refine hia (y:=I (sumF h.obs (l.take i))) rfl rfl (by omega) (by rw [Lgm,Int.toNat_natCast,tosF_get hlt];rfl) rfl ?_
 refine pq6 J (qp J (hcall J J J (moved_c _ ob.fs (ints l) l (tosF h.obs l l.length) (.inr J) hmx (tosF_len ..) (by omega) (by omega)) ?_))
 rintro _ _ ⟨rfl,rfl⟩
 refine hbuild rfl rfl (lc rfl (lc rfl (lc rfl (ln rfl)))) (hbsl (q':=[(newO h.obs l i).enc]) rfl rfl (by rw [hno2];rfl) (hapC rfl rfl hc (by simp) (by simp;omega) (r:=((List.range (i + 1)).map (newO h.obs l)).map HOb.enc) (by simp [List.range_succ]) ?_))
 intro v' hv1 hv2
 refine qp J (hstl J J J J (Nlb J) (lq2 J) (qk (kq9 J) (kq3 J) (bqn (sqn (ereg (hadd J J (i64w (by omega)) (qp J (qk (kq9 J) (kq3 J) ?_))))))))
 exact col2 h hi roots _ l hu ha hm o7 (.tip _) (i + 1) (by omega) hv1 hX
termination_by l.length - i
decreasing_by all_goals omega
theorem foundF_sub {l:List Int} {ws:List Word} {x:Int} (h:x ∈ l):x ∈ foundF l ws:=by
 induction ws generalizing l with
 | nil=>exact h
 | cons w ws ih =>
   unfold foundF
   refine ih ?_
   split
   ·exact List.mem_append_left _ h
   exact h
theorem foundF_pre (l:List Int) (ws:List Word):∃ E,foundF l ws=l ++ E:=by
 induction ws generalizing l with
 | nil=>exact ⟨[],by simp [foundF]⟩
 | cons w ws ih =>
   unfold foundF
   split
   ·obtain ⟨E,hE⟩:=ih (l ++ [w.n])
    exact ⟨w.n :: E,by rw [hE];simp⟩
   exact ih l
theorem foundF_mem {l:List Int} {ws:List Word}:∀ w ∈ ws,w.ref=true → w.n ∈ foundF l ws:=by
 induction ws generalizing l with
 | nil=>intro w hw;cases hw
 | cons a ws ih =>
   intro w hw hr
   unfold foundF
   rcases List.mem_cons.1 hw with rfl | hw
   ·refine foundF_sub ?_
    split
    ·simp
    rename_i hc
    have:¬ placeF w.n 0 l < 0:=fun h=>hc ⟨hr,h⟩
    rw [placeF_lt] at this
    exact Classical.not_not.1 this
   exact ih w hw hr
structure RD (obs:List HOb) (i:Nat) (l:List Int):Prop where
 ad:AD obs l
 cl:∀ j,j < i → ∀ x,l[j]?=some x → ∀ w ∈ fieldsAt obs x,w.ref=true → w.n ∈ l
theorem RD.step {h:RH} (hi:HInv h) {i:Nat} {l:List Int} (k:RD h.obs i l) {x:Int} (hx:l[i]?=some x):RD h.obs (i + 1) (foundF l (fieldsAt h.obs x)):=by
 obtain ⟨E,hE⟩:=foundF_pre l (fieldsAt h.obs x)
 have hlt:i < l.length:=by
  rcases Nat.lt_or_ge i l.length with h | h
  ·exact h
  rw [List.getElem?_eq_none h] at hx;cases hx
 refine ⟨k.ad.found (fields_valid hi x),fun j hj y hy w hw hr=>?_⟩
 rw [hE,List.getElem?_append_left (by omega)] at hy
 rcases Nat.lt_or_ge j i with hji | hji
 ·exact foundF_sub (k.cl j hji y hy w hw hr)
 obtain rfl:j=i:=by omega
 rw [hx] at hy
 cases hy
 exact foundF_mem w hw hr
theorem RD.fin {h:RH} (hi:HInv h) {k i:Nat} {l:List Int} (r:RD h.obs i l) (hk:h.obs.length < k + i):AD h.obs (reachF h.obs k i l) ∧ (∀ x ∈ reachF h.obs k i l,∀ w ∈ fieldsAt h.obs x,w.ref=true → w.n ∈ reachF h.obs k i l) ∧ ∀ x ∈ l,x ∈ reachF h.obs k i l:=by
 induction k generalizing i l with
 | zero =>
   have:=r.ad.len
   refine ⟨r.ad,fun x hx w hw hr=>?_,fun x hx=>hx⟩
   obtain ⟨j,hj⟩:=List.getElem?_of_mem hx
   have hjl:j < l.length:=by
    rcases Nat.lt_or_ge j l.length with h | h
    ·exact h
    rw [show reachF _ 0 i l=l from rfl,List.getElem?_eq_none h] at hj;cases hj
   exact r.cl j (by omega) x hj w hw hr
 | succ k ih =>
   unfold reachF
   split
   ·rename_i hn
    have hn:=List.getElem?_eq_none_iff.1 hn
    refine ⟨r.ad,fun x hx w hw hr=>?_,fun x hx=>hx⟩
    obtain ⟨j,hj⟩:=List.getElem?_of_mem hx
    have hjl:j < l.length:=by
     rcases Nat.lt_or_ge j l.length with h | h
     ·exact h
     rw [List.getElem?_eq_none h] at hj;cases hj
    exact r.cl j (by omega) x hj w hw hr
   rename_i x hx
   obtain ⟨a,b,c⟩:=ih (r.step hi hx) (by omega)
   exact ⟨a,b,fun y hy=>c y (foundF_sub hy)⟩
theorem reach_ok {h:RH} (hi:HInv h) {roots:List Word} (hv:validW h.obs roots=true):AD h.obs (reachR h.obs roots) ∧ (∀ x ∈ reachR h.obs roots,∀ w ∈ fieldsAt h.obs x,w.ref=true → w.n ∈ reachR h.obs roots) ∧ ∀ w ∈ roots,w.ref=true → w.n ∈ reachR h.obs roots:=by
 have r:RD h.obs 0 (foundF [] roots):=⟨AD.found ⟨List.nodup_nil,fun x hx=>by cases hx⟩ hv,fun j hj=>absurd hj (Nat.not_lt_zero _)⟩
 obtain ⟨a,b,c⟩:=r.fin hi (k:=h.obs.length + 1) (by omega)
 exact ⟨a,b,fun w hw hr=>c _ (foundF_mem w hw hr)⟩
theorem collect17_c (s:Sg) (h:RH) (hi:HInv h) (roots:List Word) (hv:validW h.obs roots=true) (hr:roots.length ≤ 2 ^ 38):HC p N65_ [.agg h.cs,words roots] s (fun r s'=>r=[.agg (collectF h roots).1.cs,words (collectF h roots).2] ∧ KL [] s s'):=by
 obtain ⟨ra,rb,rc⟩:=reach_ok hi hv
 have hlo:=ra.len
 have hno:=hi.n
 refine hcf J f65_ J ?_
 simp only [chainOf]
 refine er (hbox (dq2 J) J (lq2 J) (hal (dq3 J) (qp J (qn (kq3 J) (kq2 J) (er (hlda J J (lq2 J) (qp J (hcall J J J (reach_c _ h hi roots hv hr) ?_))))))))
 rintro _ S1 ⟨u,rfl,hu,hK⟩
 refine qp J (qn (kq4 J) (kq2 J) (er (qp J (qn (kq5 J) (kq2 J) (er (qp J (qn (kq6 J) (kq2 J) (eseq (er (qp J (hlenA J (hu.nl S1).len (qp J (qn (kq9 J) (kq2 J) (eblock (col1 h hi roots u (reachR h.obs roots) hu ra .full 0 (by omega) trivial ?_)))))))))))))))
 intro j n1 v1 o7
 refine bqx (sqn (er (pq2 J (hbuild J J (lq2 J) (hal (dq13 J) (hstl J J J J (Nlb J) (lq2 J) (qn (kq6 J) (kq3 J) (eseq (er (qp J (hlenA J (hu.nl S1).len (qp J (qn (kq9 J) (kq3 J) (eblock (col2 h hi roots u (reachR h.obs roots) hu ra rb o7 .full 0 (by omega) trivial ?_)))))))))))))))
 intro j2 n2 v2 o2
 refine bqx (sqn (er (hlda J J (lq2 J) (pq3 J (hcall J J (by simp [AV.ers,AV.er,hu.er]) (moved_c _ roots u _ (tosF h.obs (reachR h.obs roots) (reachR h.obs roots).length) hu rc (tosF_len ..) hr (by omega)) ?_)))))
 rintro _ _ ⟨rfl,rfl⟩
 refine hstl J J J J (Nlb J) (lq2 J) (qp J (qn (kq2 J) (kq1 J) (eret (fqr J ?_))))
 exact ⟨rfl,hK⟩
end Go.Sim.W
namespace Go.Sim.W
open Go Go.Sim
def keys (T:TL):List Int:=T.map (·.1)
def mw (T:TL) (w:Word):Word:=if w.ref=true then ⟨true,nad T w.n⟩ else w
theorem keys_app (T E:TL):keys (T ++ E)=keys T ++ keys E:=List.map_append ..
theorem tAt_key {T:TL} {x:Int}:x ∈ keys T ↔ ∃ o,tAt T x=some o:=by
 constructor
 ·intro h
  cases e:tAt T x with
  | some o=>exact ⟨o,rfl⟩
  | none =>
    obtain ⟨q,hq,rfl⟩:=List.mem_map.1 h
    exact absurd rfl (tAt_none e q hq)
 rintro ⟨o,h⟩
 exact List.mem_map.2 ⟨_,tAt_mem h,rfl⟩
theorem nad_app {T:TL} {x:Int} (h:x ∈ keys T) (E:TL):nad (T ++ E) x=nad T x:=by
 obtain ⟨o,ho⟩:=tAt_key.1 h
 rw [nad,nad,tAt_app ho,ho]
theorem keys_put {T:TL} {i:Nat} {q:Int × HOb} (hq:T[i]?=some q) (fs:List Word):keys (putT T i q fs)=keys T:=by
 obtain ⟨l1,l2,e1,e2⟩:=set_split hq (q.1,⟨q.2.at_,q.2.tag,fs⟩)
 rw [putT,e2]
 conv=>rhs;rw [e1]
 simp [keys]
theorem nad_put {T:TL} {i:Nat} {q:Int × HOb} (hq:T[i]?=some q) (fs:List Word) (x:Int):nad (putT T i q fs) x=nad T x:=by
 obtain ⟨l1,l2,e1,e2⟩:=set_split hq (q.1,⟨q.2.at_,q.2.tag,fs⟩)
 rw [putT,e2]
 conv=>rhs;rw [e1]
 unfold nad tAt
 rw [List.find?_append,List.find?_append]
 cases h:List.find? (fun q=>decide (q.1=x)) l1 with
 | some y=>rfl
 | none =>
   simp only [List.find?_cons,Option.none_or]
   by_cases hx:q.1=x
   ·simp only [decide_eq_true hx,Option.map_some]
   simp only [decide_eq_false hx]
theorem mvT_keys {obs:List HOb} {T:TL} {x:Int} (h:hasF obs x=true):keys (mvT obs T x)=if placeF x 0 (keys T) < 0 then keys T ++ [x] else keys T:=by
 unfold mvT
 split
 ·rename_i o ho
  have:x ∈ keys T:=tAt_key.2 ⟨o,ho⟩
  rw [if_neg fun hc=>(placeF_lt x (keys T) 0).1 hc this]
 rename_i hn
 have hx:x ∉ keys T:=fun hx=>by
  obtain ⟨o,ho⟩:=tAt_key.1 hx
  rw [hn] at ho
  cases ho
 obtain ⟨o,ho⟩:=Option.isSome_iff_exists.1 h
 rw [ho,if_pos ((placeF_lt x (keys T) 0).2 hx),keys_app]
 rfl
theorem mvW_keys {obs:List HOb} {ws:List Word} (h:validW obs ws=true) (T:TL):keys (mvW obs T ws).2=foundF (keys T) ws:=by
 induction ws generalizing T with
 | nil=>rfl
 | cons w ws ih =>
   obtain ⟨h1,h2⟩:=validW_cons.1 h
   unfold mvW foundF
   by_cases hr:w.ref=true
   ·rw [if_pos hr]
    show keys (mvW obs (mvT obs T w.n) ws).2=_
    rw [ih h2,mvT_keys (h1 hr)]
    simp only [hr,true_and]
   rw [if_neg hr,if_neg fun h=>hr h.1]
   exact ih h2 T
theorem mvW_fst {obs:List HOb} {ws:List Word} (h:validW obs ws=true) (T:TL):(mvW obs T ws).1=ws.map (mw (mvW obs T ws).2):=by
 induction ws generalizing T with
 | nil=>rfl
 | cons w ws ih =>
   obtain ⟨h1,h2⟩:=validW_cons.1 h
   unfold mvW
   by_cases hr:w.ref=true
   ·rw [if_pos hr]
    show _ :: (mvW obs (mvT obs T w.n) ws).1=mw (mvW obs (mvT obs T w.n) ws).2 w :: _
    rw [ih h2,mw,if_pos hr]
    congr 2
    obtain ⟨E,hE⟩:=mvW_pre obs (mvT obs T w.n) ws
    rw [hE,nad_app]
    exact tAt_key.2 (mvT_at (h1 hr))
   rw [if_neg hr]
   show w :: (mvW obs T ws).1=mw (mvW obs T ws).2 w :: _
   rw [ih h2,mw,if_neg hr]
structure ZI (obs:List HOb) (i:Nat) (T:TL):Prop where
 si:SI obs i T
 z:∀ j,j < i → ∀ q,T[j]?=some q → q.2.fs=(fieldsAt obs q.1).map (mw T)
 cl:∀ j,j < i → ∀ q,T[j]?=some q → ∀ w ∈ fieldsAt obs q.1,w.ref=true → w.n ∈ keys T
theorem mw_congr {T T':TL} {ws:List Word} (h:∀ w ∈ ws,w.ref=true → nad T w.n=nad T' w.n):ws.map (mw T)=ws.map (mw T'):=by
 refine List.map_congr_left fun w hw=>?_
 unfold mw
 split
 ·rename_i hr;rw [h w hw hr]
 rfl
theorem ZI.step {obs:List HOb} {i:Nat} {T:TL} (h:ZI obs i T) (hv:∀ o ∈ obs,validW obs o.fs=true) {q:Int × HOb} (hq:T[i]?=some q) :
 ZI obs (i + 1) (putT (mvW obs T q.2.fs).2 i q (mvW obs T q.2.fs).1) ∧ keys (putT (mvW obs T q.2.fs).2 i q (mvW obs T q.2.fs).1)=foundF (keys T) (fieldsAt obs q.1) ∧ ∀ x ∈ keys T,nad (putT (mvW obs T q.2.fs).2 i q (mvW obs T q.2.fs).1) x=nad T x:=by
 obtain ⟨s1,hq2,hval,_⟩:=h.si.step hv hq
 obtain ⟨o,ho,hf⟩:=h.si.old i (Nat.le_refl _) q hq
 have hfa:fieldsAt obs q.1=q.2.fs:=by rw [fieldsAt,ho,hf]
 obtain ⟨E,hE⟩:=mvW_pre obs T q.2.fs
 have hk:keys (putT (mvW obs T q.2.fs).2 i q (mvW obs T q.2.fs).1)=foundF (keys T) (fieldsAt obs q.1):=by rw [keys_put hq2,mvW_keys hval,hfa]
 have hn:∀ x ∈ keys T,nad (putT (mvW obs T q.2.fs).2 i q (mvW obs T q.2.fs).1) x=nad T x:=fun x hx=>by rw [nad_put hq2,hE,nad_app hx]
 have hlt:i < T.length:=by
  rcases Nat.lt_or_ge i T.length with h | h
  ·exact h
  rw [List.getElem?_eq_none h] at hq;cases hq
 have hlt2:i < (mvW obs T q.2.fs).2.length:=by rw [hE,List.length_append];omega
 refine ⟨⟨s1,fun j hj p hp=>?_,fun j hj p hp=>?_⟩,hk,hn⟩
 ·rcases Nat.lt_or_ge j i with hji | hji
  ·rw [putT,List.getElem?_set_ne (by omega),hE,List.getElem?_append_left (by omega)] at hp
   rw [h.z j hji p hp]
   exact mw_congr fun w hw hr=>(hn w.n (h.cl j hji p hp w hw hr)).symm
  obtain rfl:j=i:=by omega
  rw [putT,List.getElem?_set_self hlt2] at hp
  cases hp
  show (mvW obs T q.2.fs).1=(fieldsAt obs q.1).map _
  rw [mvW_fst hval,hfa]
  exact mw_congr fun w hw hr=>(nad_put hq2 _ _).symm
 rw [hk]
 rcases Nat.lt_or_ge j i with hji | hji
 ·rw [putT,List.getElem?_set_ne (by omega),hE,List.getElem?_append_left (by omega)] at hp
  exact fun w hw hr=>foundF_sub (h.cl j hji p hp w hw hr)
 obtain rfl:j=i:=by omega
 rw [putT,List.getElem?_set_self hlt2] at hp
 cases hp
 exact fun w hw hr=>foundF_mem w hw hr
theorem scan_eq {obs:List HOb} (hv:∀ o ∈ obs,validW obs o.fs=true) {k i:Nat} {T:TL} (h:ZI obs i T) (hk:obs.length < k + i) :
 keys (scanT obs k i T)=reachF obs k i (keys T) ∧ TI obs (scanT obs k i T) ∧ (∀ (j:Nat) (q:Int × HOb),(scanT obs k i T)[j]?=some q → q.2.fs=(fieldsAt obs q.1).map (mw (scanT obs k i T))) ∧ ∀ x ∈ keys T,nad (scanT obs k i T) x=nad T x:=by
 induction k generalizing i T with
 | zero =>
   have hl:=h.si.ti.len
   refine ⟨J,h.si.ti,fun j q hq=>?_,fun _ _=>J⟩
   have hj:j < T.length:=by
    rcases Nat.lt_or_ge j T.length with h | h
    ·exact h
    rw [show scanT obs 0 i T=T from rfl,List.getElem?_eq_none h] at hq;cases hq
   exact h.z j (by omega) q hq
 | succ k ih =>
   cases hq:T[i]? with
   | none =>
     have e1:scanT obs (k + 1) i T=T:=by rw [scanT,hq]
     have e2:reachF obs (k + 1) i (keys T)=keys T:=by rw [reachF,keys,Lgm,hq];rfl
     have hn:=List.getElem?_eq_none_iff.1 hq
     rw [e1,e2]
     refine ⟨J,h.si.ti,fun j q hq=>?_,fun _ _=>J⟩
     have hj:j < T.length:=by
      rcases Nat.lt_or_ge j T.length with h | h
      ·exact h
      rw [List.getElem?_eq_none h] at hq;cases hq
     exact h.z j (by omega) q hq
   | some q =>
     obtain ⟨h1,h2,h3⟩:=h.step hv hq
     obtain ⟨a,b,c,d⟩:=ih h1 (by omega)
     have e1:scanT obs (k + 1) i T=scanT obs k (i + 1) (putT (mvW obs T q.2.fs).2 i q (mvW obs T q.2.fs).1):=by rw [scanT,hq]
     have e2:reachF obs (k + 1) i (keys T)=reachF obs k (i + 1) (foundF (keys T) (fieldsAt obs q.1)):=by
      rw [reachF,keys,Lgm,hq]
      rfl
     rw [e1,e2,← h2]
     refine ⟨a,b,c,fun x hx=>?_⟩
     rw [d x,h3 x hx]
     rw [h2]
     exact foundF_sub hx
theorem addrs_get {a:Int} {T:TL} {obs:List HOb} (ha:addrs a (tos T)) (hl:∀ q ∈ T,q.2.fs.length=(fieldsAt obs q.1).length) {j:Nat} {q:Int × HOb} (hq:T[j]?=some q):q.2.at_=a + sumF obs ((keys T).take j):=by
 induction T generalizing a j with
 | nil=>cases hq
 | cons p T ih =>
   cases j with
   | zero =>
     simp only [List.getElem?_cons_zero,Oie] at hq
     subst hq
     rw [ha.1]
     simp [sumF]
   | succ j =>
     have:=ih ha.2 (fun q hq=>hl q (List.mem_cons_of_mem _ hq)) (by simpa using hq)
     rw [this,hl p (by simp)]
     simp only [keys,sumF,List.map_cons,List.take_succ_cons,List.sum_cons]
     omega
theorem tAt_get {T:TL} (hn:(keys T).Nodup) {j:Nat} {q:Int × HOb} (hq:T[j]?=some q):tAt T q.1=some q.2:=by
 induction T generalizing j with
 | nil=>cases hq
 | cons p T ih =>
   have hn:=List.nodup_cons.1 hn
   cases j with
   | zero =>
     simp only [List.getElem?_cons_zero,Oie] at hq
     subst hq
     simp [tAt]
   | succ j =>
     have hq:T[j]?=some q:=by simpa using hq
     have hne:p.1 ≠ q.1:=fun e=>hn.1 (by show p.1 ∈ keys T;rw [e];exact List.mem_map.2 ⟨q,Lmg hq,rfl⟩)
     have:=ih hn.2 hq
     simp only [tAt,List.find?_cons,decide_eq_false hne] at this ⊢
     exact this
theorem collect_eq {h:RH} (hi:HInv h) {roots:List Word} (hv:validW h.obs roots=true):collectF h roots=collectP h roots:=by
 have r0:SI h.obs 0 (mvW h.obs [] roots).2:=SI.root hi roots
 have z0:ZI h.obs 0 (mvW h.obs [] roots).2:=⟨r0,fun j hj=>absurd hj (Nat.not_lt_zero _),fun j hj=>absurd hj (Nat.not_lt_zero _)⟩
 obtain ⟨a,b,c,d⟩:=scan_eq hi.v z0 (k:=h.obs.length + 1) (by omega)
 rw [mvW_keys hv] at a
 have a:keys (scanT h.obs (h.obs.length + 1) 0 (mvW h.obs [] roots).2)=reachR h.obs roots:=a
 obtain ⟨ra,rb,rc⟩:=reach_ok hi hv
 generalize hT:scanT h.obs (h.obs.length + 1) 0 (mvW h.obs [] roots).2=T at a b c d
 have hlen:∀ q ∈ T,q.2.fs.length=(fieldsAt h.obs q.1).length:=fun q hq=>by
  obtain ⟨o,h1,h2,_⟩:=b.ok q hq
  rw [fieldsAt,h1,h2]
 have hat:∀ j q,T[j]?=some q → q.2.at_=sumF h.obs ((reachR h.obs roots).take j):=fun j q hq=>by
  have:=addrs_get b.ad hlen hq
  rw [a] at this
  omega
 have hmv:∀ w:Word,(w.ref=true → w.n ∈ reachR h.obs roots) → mvd (reachR h.obs roots) (tosF h.obs (reachR h.obs roots) (reachR h.obs roots).length) w=mw T w:=by
  intro w hw
  unfold mvd mw
  by_cases hr:w.ref=true
  ·rw [if_pos hr,if_pos hr]
   obtain ⟨k,k1,k2,k3⟩:=placeF_ge 0 (hw hr)
   have hk:k < T.length:=by have:=congrArg List.length a;simp only [keys,List.length_map] at this;omega
   obtain ⟨q,hq⟩:=get_of_lt hk
   have hqk:q.1=w.n:=by
    have:(keys T)[k]?=some q.1:=by rw [keys,Lgm,hq];rfl
    rw [a,k3] at this
    exact (Option.some.inj this).symm
   have hn:=tAt_get b.nd hq
   rw [hqk] at hn
   rw [k2,Nat.zero_add,Int.toNat_natCast,tosF_get k1,nad,hn]
   simp only [Option.getD_some]
   rw [hat k q hq]
  rw [if_neg hr,if_neg hr]
 unfold collectF collectP
 simp only
 rw [hT]
 refine Prod.ext ?_ ?_
 ·refine congrArg (RH.mk h.size) (List.ext_getElem? fun j=>?_)
  rw [tos,Lgm,Lgm]
  have hl:T.length=(reachR h.obs roots).length:=by have:=congrArg List.length a;simpa [keys] using this
  rcases Nat.lt_or_ge j T.length with hj | hj
  ·obtain ⟨q,hq⟩:=get_of_lt hj
   rw [hq,List.getElem?_range (by omega)]
   show some (newO h.obs _ j)=some q.2
   obtain ⟨o,h1,h2,h3⟩:=b.ok q (Lmg hq)
   have hk:(reachR h.obs roots)[j]?=some q.1:=by rw [← a,keys,Lgm,hq];rfl
   have hfa:fieldsAt h.obs q.1=o.fs:=by rw [fieldsAt,h1]
   rw [newO_at hk h1]
   have e:o.fs.map (mvd (reachR h.obs roots) (tosF h.obs (reachR h.obs roots) (reachR h.obs roots).length))=q.2.fs:=by
    rw [c j q hq,hfa]
    refine List.map_congr_left fun w hw=>hmv w fun hr=>rb q.1 (Lmg hk) w (by rw [hfa];exact hw) hr
   rw [e,← hat j q hq,← h3]
  rw [List.getElem?_eq_none (by simp;omega),List.getElem?_eq_none (l:=T) hj]
  rfl
 show roots.map _=(mvW h.obs [] roots).1
 rw [mvW_fst hv]
 refine List.map_congr_left fun w hw=>?_
 rw [hmv w (rc w hw)]
 unfold mw
 split
 ·rename_i hr
  rw [d w.n]
  rw [mvW_keys hv]
  exact foundF_mem w hw hr
 rfl
theorem mvW_app (obs:List HOb) (T:TL) (l:List Word) (k:Nat):mvW obs T (l ++ List.replicate k w0)=((mvW obs T l).1 ++ List.replicate k w0,(mvW obs T l).2):=by
 induction l generalizing T with
 | nil =>
   induction k with
   | zero=>rfl
   | succ k ih =>
     rw [List.nil_append] at ih ⊢
     rw [List.replicate_succ,show mvW obs T (w0 :: List.replicate k w0)=(w0 :: (mvW obs T (List.replicate k w0)).1,(mvW obs T (List.replicate k w0)).2) from rfl,ih]
     rfl
 | cons w l ih =>
   rw [List.cons_append]
   unfold mvW
   split
   ·rw [ih];rfl
   rw [ih];rfl
theorem collect_pad (h:RH) (l:List Word) (n:Nat):collectP h (padR l n)=((collectP h l).1,padR (collectP h l).2 n):=by
 have e:(collectP h l).2.length=l.length:=mvW_len ..
 unfold padR
 rw [e]
 unfold collectP
 rw [mvW_app]
theorem pad_valid {obs:List HOb} {l:List Word} (h:validW obs l=true) (n:Nat):validW obs (padR l n)=true:=by
 rw [validW_iff]
 intro w hw hr
 rcases List.mem_append.1 hw with hw | hw
 ·exact validW_iff.1 h w hw hr
 rw [(List.mem_replicate.1 hw).2] at hr;cases hr
end Go.Sim.W
namespace Go.Sim.W
open Go Go.Sim
def VM.rcsV (m:VM) (nw:Int) (v:AV):List AV:=[I m.code.params,SL 7 (m.code.ins.map Instr.enc),ints m.code.entries,I m.period,I m.fuel,I m.h.size,SL 3 (m.h.obs.map HOb.enc),v,I m.at_,I nw,I m.fin,I m.val,ints m.outs,I m.steps,B m.over]
abbrev VM.rcs (m:VM) (nw:Int):List AV:=m.rcsV nw (words (padR m.regs 1024))
theorem padR_len' {l:List Word} {n:Nat} (h:l.length ≤ n):(padR l n).length=n:=by
 unfold padR
 rw [List.length_append,List.length_replicate]
 omega
theorem padR_get {l:List Word} {n:Nat} (h:l.length ≤ n) {r:Int} (hr:r.toNat < n):(padR l n)[r.toNat]?=some (getR l r):=by
 unfold padR getR
 rcases Nat.lt_or_ge r.toNat l.length with h1 | h1
 ·obtain ⟨w,hw⟩:=get_of_lt h1
  rw [List.getElem?_append_left h1,hw]
  rfl
 rw [List.getElem?_append_right h1,List.getElem?_eq_none h1,List.getElem?_replicate,if_pos (by omega)]
 rfl
theorem padR_pad {l:List Word} {k n:Nat} (h:k ≤ n):padR (padR l k) n=padR l n:=by
 unfold padR
 rw [List.append_assoc,List.length_append,List.length_replicate,List.replicate_append_replicate]
 congr 2
 omega
theorem padR_set {l:List Word} {n r:Nat} {w:Word} (h:r < l.length):padR (l.set r w) n=(padR l n).set r w:=by
 unfold padR
 rw [List.length_set,List.set_append_left _ _ h]
theorem pad_set {l:List Word} {r:Int} {w:Word} (h0:0 ≤ r ∧ r ≤ 1023):padR (setR l r w) 1024=(padR l 1024).set r.toNat w:=by
 rw [setR,padR_set (by have:=padR_len l (r.toNat + 1);omega),padR_pad (by omega)]
theorem frz_rcs {S:Sg} {m:VM} {nw:Int} {v:AV} {ws:List Word} (h:LM v ws S):∃ o mu,frzDL (frzD 1) S (m.rcsV nw v)=some (m.rcsV nw (.slice o 2 (wcs ws)),{ S with mu:=mu }) ∧ ∀ g,g ∉ tk v → mu g=S.mu g:=by
 obtain ⟨o,mu,_,h2,h3⟩:=frz_w h
 refine ⟨o,mu,?_,h3⟩
 have eI:∀ (S:Sg) (x:Int),frzD 1 S (I x)=some (I x,S):=fun _ _=>rfl
 have eB:∀ (S:Sg) (x:Bool),frzD 1 S (B x)=some (B x,S):=fun _ _=>rfl
 have eS:∀ (S:Sg) (n:Nat) (x:List AV),frzD 1 S (SL n x)=some (SL n x,S):=fun _ _ _=>rfl
 simp only [VM.rcsV,frzDL,eI,eB,eS,ints,h2,Obs]
theorem zeros_w (n:Nat):zeros [B false,I 0] n=flat (wcs (List.replicate n w0)):=by
 unfold zeros
 induction n with
 | zero=>rfl
 | succ n ih=>rw [List.replicate_succ,List.replicate_succ,List.flatten_cons,ih];rfl
theorem with_c (s:Sg) (m:VM) (nw r0:Int) (w:Word) (rl:m.regs.length ≤ 1024) (h0:0 ≤ r0 ∧ r0 ≤ 1023) (ha:0 ≤ m.at_ ∧ m.at_ ≤ 2 ^ 40):HC p N77_ [.agg (m.rcs nw),I r0,.agg [B w.ref,I w.n]] s (fun r s'=>r=[.agg ((m.put r0 w).rcs nw)] ∧ KL [] s s'):=by
 have hpl:=padR_len' rl
 refine hcf J f77_ J ?_
 simp only [chainOf]
 refine er (hbox (dq3 J) J (lq15 J) (hbox (dq4 J) J (lq2 J) (hal (dq5 J) (qn (kq4 J) (kq3 J) (er (pq2 J (hcall J J J (copy_c _ (padR m.regs 1024) (by omega)) ?_)))))))
 rintro _ S1 ⟨v1,rfl,c1,c2,c3⟩
 obtain ⟨g,rfl,g1,g2⟩:∃ g,v1=.ms g 0 (padR m.regs 1024).length 2 ∧ S1.mu g=some (flat (wcs (padR m.regs 1024))) ∧ g < S1.mn:=by
  rcases c1 with ⟨hz,_⟩ | c1
  ·rw [hz] at hpl;cases hpl
  exact c1
 refine qp rfl (hstl rfl rfl rfl rfl (Nlb rfl) (lc rfl (lc rfl (lc rfl (lc rfl (lc rfl (lc rfl (lc rfl (lc rfl (lc rfl (lc rfl (lc rfl (lc rfl (lc rfl (lc rfl (lc rfl (ln rfl)))))))))))))))) (qk (kc rfl (kc rfl (kc rfl (kc rfl kn)))) (kc rfl (kc rfl (kc rfl kn))) (sqn (eseq (ereg (qp rfl (qp rfl (qp rfl (hlda rfl rfl (lc rfl (lc rfl (ln rfl))) (hiam rfl rfl h0.1 (by omega) (hstm (y:=.agg [B w.ref,I w.n]) (cs':=flat (wcs ((padR m.regs 1024).set r0.toNat w))) rfl rfl g1 rfl (by rw [flat_len (wcs_sz _),lw];simp [AV.cells];omega) (by simp) (by rw [Nat.zero_add];exact set_word (show r0.toNat < (padR m.regs 1024).length from by omega)) (qk (kc rfl (kc rfl kn)) (kc rfl (kc rfl kn)) (sqn (eseq (ereg (qp rfl (qp rfl (hadd rfl rfl (i64w (by omega)) (qp rfl (hstl rfl rfl rfl rfl (Nlb rfl) (lc rfl (lc rfl (lc rfl (lc rfl (lc rfl (lc rfl (lc rfl (lc rfl (lc rfl (lc rfl (lc rfl (lc rfl (lc rfl (lc rfl (lc rfl (ln rfl)))))))))))))))) (qk (kc rfl (kc rfl kn)) (kc rfl (kc rfl kn)) (sqn (eseq ?_)))))))))))))))))))))))
 refine ereg (hlda J J (lq15 J) (hstl J J J J (Nlb J) (lq15 J) (qn (kq1 J) (kq1 J) ?_)))
 obtain ⟨o2,m2,w1,w2⟩:=frz_rcs (m:={ m with at_:=m.at_ + 1 }) (nw:=nw) (v:=.ms g 0 (padR m.regs 1024).length 2) (ws:=(padR m.regs 1024).set r0.toNat w) (S:={ S1 with mu:=upd S1.mu g (some (flat (wcs ((padR m.regs 1024).set r0.toNat w)))) }) (.inr ⟨g,by rw [List.length_set],upd_same _ _ _,g2⟩)
 refine eretz_loc J w1 (fqr J ?_)
 have hK1:KL [g] s S1:=⟨c2.kl.e,c2.kl.mn,fun g' hg hx=>c2.kl.mu g' hg (by simp)⟩
 have hg:=c3 g (by simp [tk])
 refine ⟨?_,⟨⟨c2.kl.e.nx,c2.kl.e.ob,c2.kl.e.gn,c2.kl.e.gl,c2.kl.e.Q⟩,c2.kl.mn,fun g' hg' hx=>?_⟩⟩
 ·rw [show (m.put r0 w).rcs nw=VM.rcsV { m with at_:=m.at_ + 1 } nw (words (padR (setR m.regs r0 w) 1024)) from rfl,pad_set h0]
  rfl
 have hne:g' ≠ g:=by omega
 exact (w2 g' (by simpa [tk] using hne)).trans ((upd_ne _ _ hne).trans (c2.kl.mu g' hg' hx))
theorem cpy_pad {s:Sg} {l:List Word} (hl:l.length ≤ 1024):wopOf (.cpy 2) { s with mu:=upd s.mu s.mn (some (zeros [B false,I 0] 1024)),mn:=s.mn + 1 } [.ms s.mn 0 1024 2,words l]=some (I ((min l.length 1024:Nat):Int),{ s with mu:=upd (upd s.mu s.mn (some (zeros [B false,I 0] 1024))) s.mn (some (flat (wcs (padR l 1024)))),mn:=s.mn + 1 }):=by
 have e1:(flat (wcs l)).length=l.length * 2:=by rw [flat_len (wcs_sz _),lw]
 have e2:(flat (wcs (List.replicate 1024 w0))).length=1024 * 2:=by rw [flat_len (wcs_sz _),lw,List.length_replicate]
 have hsrc:∀ S:Sg,srcOf 2 S (words l)=some (l.length,flat (wcs l)):=fun S=>by
  simp [srcOf,wcs]
 simp only [wopOf,cpyOf,if_true,hsrc,Obs,upd_same,zeros_w,e2]
 rw [if_pos (by omega),Nat.min_eq_left hl,List.take_of_length_le (by omega)]
 have e3:wr (flat (wcs (List.replicate 1024 w0))) 0 (flat (wcs l))=flat (wcs (padR l 1024)):=by
  have e5:List.replicate 1024 w0=List.replicate l.length w0 ++ List.replicate (1024 - l.length) w0:=by rw [List.replicate_append_replicate,show l.length + (1024 - l.length)=1024 from by omega]
  rw [e5]
  have:=wr_mid (A:=[]) (B:=List.replicate l.length w0) (B':=l) (C:=List.replicate (1024 - l.length) w0) (by simp)
  simpa [padR] using this
 rw [e3]
theorem frame_c (s:Sg) (l:List Word) (hl:l.length ≤ 1024):HC p N81_ [words l] s (fun r s'=>r=[words (padR l 1024)] ∧ KL [] s s'):=by
 refine hcf J f81_ J ?_
 simp only [chainOf]
 refine eseq (ereg (qp rfl (qk (kc rfl kn) kn (sqn (eseq (ereg (hwop rfl (mks_eq (sz:=2) (by_:=16) (n:=1024) (z:=[B false,I 0]) (S:=s) (by decide)) (qp rfl (qk (kc rfl (kc rfl kn)) kn (sqn (eseq (ereg (qp rfl (qp rfl (hwop rfl (r:=I ((min l.length 1024:Nat):Int)) (s':={ s with mu:=upd (upd s.mu s.mn (some (zeros [B false,I 0] 1024))) s.mn (some (flat (wcs (padR l 1024)))),mn:=s.mn + 1 }) (cpy_pad hl) (qk (kc rfl kn) kn (sqn (eseq (ereg (qp rfl (qp rfl (qk (kc rfl kn) kn (sqn ?_)))))))))))))))))))))))
 obtain ⟨o2,m2,_,w1,w2⟩:=frz_w (S:={ s with mu:=upd (upd s.mu s.mn (some (zeros [B false,I 0] 1024))) s.mn (some (flat (wcs (padR l 1024)))),mn:=s.mn + 1 }) (v:=.ms s.mn 0 1024 2) (ws:=padR l 1024) (.inr ⟨s.mn,by rw [padR_len' hl],upd_same _ _ _,Nat.lt_succ_self _⟩)
 refine eretz_env J J w1 (fqr J ?_)
 refine ⟨J,⟨⟨Nat.le_refl _,fun _ _=>J,Nat.le_refl _,fun _ _=>J,J⟩,Nat.le_succ _,fun g' hg' hx=>?_⟩⟩
 have hne:g' ≠ s.mn:=by omega
 exact (w2 g' (by simpa [tk] using hne)).trans ((upd_ne _ _ hne).trans (upd_ne _ _ hne))
theorem rend_c (s:Sg) (m:VM) (nw k:Int):HC p N48_ [.agg (m.rcs nw),I k] s (fun r s'=>r=[.agg ((m.end_ k).rcs nw)] ∧ s'=s):=by
 refine hcf J f48_ J ?_
 simp only [chainOf]
 refine er (hbox (dq2 J) J (lq15 J) (hal (dq3 J) (qn (kq3 J) (kq2 J) (er (qp J (hstl J J J J (Nlb J) (lq15 J) (qn (kq3 J) (kq2 J) (er (pq3 J (hstl J J J J (Nlb J) (lq15 J) (qn (kq2 J) (kq2 J) (er (hlda J J (lq15 J) (hstl J J J J (Nlb J) (lq15 J) ?_))))))))))))))
 refine qn (kq1 J) (kq1 J) (eret (fqr J ?_))
 exact ⟨rfl,rfl⟩
theorem rgc_c (s:Sg) (m:VM) (nw:Int) (hi:HInv m.h) (hv:validW m.h.obs m.regs=true) (rl:m.regs.length ≤ 1024):HC p N41_ [.agg (m.rcs nw)] s (fun r s'=>r=[.agg (m.gc.rcs nw)] ∧ KL [] s s'):=by
 have hpl:=padR_len' rl
 have hpv:=pad_valid hv 1024
 have hce:collectF m.h (padR m.regs 1024)=(m.gc.h,padR m.gc.regs 1024):=(collect_eq hi hpv).trans (collect_pad m.h m.regs 1024)
 refine hcf J f41_ J ?_
 simp only [chainOf]
 refine er (hbox (dc dn J) J (lq15 J) (hal (dq2 J) (qn (kq2 J) (kq2 J) (er (qp J (hlda J J (lq2 J) (pq2 J (hcall J J J (collect17_c _ m.h hi (padR m.regs 1024) hpv (by omega)) ?_))))))))
 rintro _ S1 ⟨rfl,hK⟩
 rw [hce]
 refine pq4 J (hstl J J J J (Nlb J) (lq15 J) (qp J (hstl J J J J (Nlb J) (lq15 J) (qn (kq2 J) (kq2 J) (er (hlda J J (lq15 J) (hstl J J J J (Nlb J) (lq15 J) (qn (kq1 J) (kq1 J) (eret (fqr J ?_))))))))))
 exact ⟨rfl,hK⟩
theorem words_l (m:VM) (nw:Int) (rl:m.regs.length ≤ 1024) (l:List Int) (hl:∀ r ∈ l,0 ≤ r ∧ r ≤ 1023) (hs:l.length ≤ 2 ^ 30) (o:Own) (i:Nat) (hi:i ≤ l.length) {n:Nat} {v:Nat → Bool} {D:List (Nat × List AV)} {S:Sg} {Q:Ex → Fr → Prop} (hc:Can o v)
 (hX:∀ j n' v' o',Q (.exit 0) ⟨upd (upd (upd (upd (upd (upd ((fun _=>none)) 11 (some (.val (B false)))) 10 (some (.val (I j)))) 9 (some (.val (I (l.map I).length)))) 8 (some (.val (ints l)))) 5 (some (.val (.slice o' 2 (wcs (listR m.regs l)))))) 2 (some (.loc 2 0)),upd ((fun _=>none)) 2 (some (m.rcs nw)),n',v',D,S⟩):EX (callL p) (.loop F82_l1) ⟨upd (upd (upd (upd (upd ((fun _=>none)) 10 (some (.val (I i)))) 9 (some (.val (I (l.map I).length)))) 8 (some (.val (ints l)))) 5 (some (.val (.slice o 2 (wcs (listR m.regs (l.take i))))))) 2 (some (.loc 2 0)),upd ((fun _=>none)) 2 (some (m.rcs nw)),n,v,D,S⟩ Q:=by
 refine eloop (er (qp J (qb ?_)))
 rintro (_ | _) h1
 ·refine qn (kq6 J) (kq1 J) (eseq (ecF J (eexit (sqx ?_))))
  have he:l.take i=l:=List.take_of_length_le (by simpa using h1)
  rw [he]
  exact hX _ _ _ _
 refine qn (kq6 J) (kq1 J) (eseq (ecT J (eskip (sqn (eseq (eblock (er ?_)))))))
 have hlt:i < l.length:=by simpa using h1
 obtain ⟨r0,hx⟩:=get_of_lt hlt
 have h0:=hl r0 (Lmg hx)
 refine hia (y:=I r0) rfl rfl (by omega) (by simp [hx]) rfl (qp rfl (qp rfl (qk (kc rfl (kc rfl (kc rfl (kc rfl (kc rfl (kc rfl kn)))))) (kc rfl kn) (sqn (ereg (qp rfl (qp rfl (qp rfl (qp rfl ?_)))))))))
 refine hia (y:=.agg [B (getR m.regs r0).ref,I (getR m.regs r0).n]) rfl rfl h0.1 (by rw [Lgm,padR_get rl (by omega)];rfl) rfl ?_
 refine hlda rfl rfl (lc rfl (lc rfl (ln rfl))) (hbsl rfl rfl (lc rfl (ln rfl)) (hapC rfl rfl hc (by simp) (by simp [lw,listR];omega) (r:=wcs (listR m.regs (l.take (i + 1)))) (by rw [List.take_add_one,hx];simp [listR,wcs,Word.enc,Word.cs,AV.ers,AV.er,AV.erT]) ?_))
 intro v' hv1 hv2
 refine qp J (qk (kq5 J) (kq1 J) (bqn (sqn (ereg (hadd J J (i64w (by omega)) (qp J (qk (kq5 J) (kq1 J) ?_)))))))
 exact words_l m nw rl l hl hs (.tip _) (i + 1) (by omega) hv1 hX
termination_by l.length - i
decreasing_by all_goals omega
theorem words_c (s:Sg) (m:VM) (nw:Int) (rl:m.regs.length ≤ 1024) (l:List Int) (hl:∀ r ∈ l,0 ≤ r ∧ r ≤ 1023) (hs:l.length ≤ 2 ^ 30):HC p N82_ [.agg (m.rcs nw),ints l] s (fun r s'=>r=[words (listR m.regs l)] ∧ s'=s):=by
 refine hcf J f82_ J ?_
 simp only [chainOf]
 refine er (hbox (dq2 J) J (lq15 J) (qp J (qn (kq2 J) (kq1 J) (er (qp J (qn (kq3 J) (kq1 J) (eseq (er (pq3 J (qn (kq5 J) (kq1 J) (eblock (words_l m nw rl l hl hs .full 0 (by omega) trivial ?_))))))))))))
 intro j n' v' o'
 refine bqx (sqn (er (pq2 J (qn (kq1 J) kn (eret (fqr J ?_))))))
 exact ⟨rfl,rfl⟩
theorem intg_l (m:VM) (nw:Int) (rl:m.regs.length ≤ 1024) (l:List Int) (hl:∀ r ∈ l,0 ≤ r ∧ r ≤ 1023) (hs:l.length ≤ 2 ^ 30) (i:Nat) (hi:i ≤ l.length) {n:Nat} {v:Nat → Bool} {D:List (Nat × List AV)} {S:Sg} {Q:Ex → Fr → Prop}
 (hX:∀ j,((l.drop i).all fun r=>!(getR m.regs r).ref)=true → Q (.exit 0) ⟨upd (upd (upd (upd (upd ((fun _=>none)) 10 (some (.val (B false)))) 9 (some (.val (I j)))) 8 (some (.val (I (l.map I).length)))) 7 (some (.val (ints l)))) 2 (some (.loc 2 0)),upd ((fun _=>none)) 2 (some (m.rcs nw)),n,v,D,S⟩) (hR:((l.drop i).all fun r=>!(getR m.regs r).ref)=false → Q .ret ⟨upd ((fun _=>none)) 4 (some (.val (B false))),(fun _=>none),n,v,D,S⟩):EX (callL p) (.loop F109_l1) ⟨upd (upd (upd (upd ((fun _=>none)) 9 (some (.val (I i)))) 8 (some (.val (I (l.map I).length)))) 7 (some (.val (ints l)))) 2 (some (.loc 2 0)),upd ((fun _=>none)) 2 (some (m.rcs nw)),n,v,D,S⟩ Q:=by
 refine eloop (er (qp J (qb ?_)))
 rintro (_ | _) h1
 ·refine qn (kq5 J) (kq1 J) (eseq (ecF J (eexit (sqx ?_))))
  exact hX _ (by rw [List.drop_eq_nil_of_le (by simpa using h1)];rfl)
 refine qn (kq5 J) (kq1 J) (eseq (ecT J (eskip (sqn (eseq (eblock (er ?_)))))))
 have hlt:i < l.length:=by simpa using h1
 obtain ⟨r0,hx⟩:=get_of_lt hlt
 have hd:=drop_cons hx
 have h0:=hl r0 (Lmg hx)
 refine hia (y:=I r0) rfl rfl (by omega) (by simp [hx]) rfl (qp rfl (qp rfl (qk (kc rfl (kc rfl (kc rfl (kc rfl (kc rfl kn))))) (kc rfl kn) (sqn (eseq (ereg (qp rfl (qp rfl (qp rfl ?_)))))))))
 refine hia (y:=.agg [B (getR m.regs r0).ref,I (getR m.regs r0).n]) rfl rfl h0.1 (by rw [Lgm,padR_get rl (by omega)];rfl) rfl ?_
 refine pq2 J (qb ?_)
 rintro (_ | _) h2
 ·refine qk (kc rfl (kc rfl (kc rfl (kc rfl (kc rfl kn))))) (kc rfl kn) (sqn (ecF rfl (eskip (bqn (sqn (ereg (hadd rfl rfl (r:=((i + 1:Nat):Int)) (i64w (by have:=hs;omega)) (qp rfl (qk (kc rfl (kc rfl (kc rfl (kc rfl kn)))) (kc rfl kn) ?_)))))))))
  exact intg_l m nw rl l hl hs (i + 1) (by omega) (fun j h=>hX j (by rw [hd];simp_all)) (fun h=>hR (by rw [hd];simp_all))
 refine qn (kq5 J) (kq1 J) (ecT J (er (qp J (qn (kq1 J) kn (eret (bqr (sqr ?_)))))))
 exact hR (by rw [hd];simp_all)
termination_by l.length - i
decreasing_by all_goals omega
theorem intg_c (s:Sg) (m:VM) (nw:Int) (rl:m.regs.length ≤ 1024) (l:List Int) (hl:∀ r ∈ l,0 ≤ r ∧ r ≤ 1023) (hs:l.length ≤ 2 ^ 30):HC p N109_ [.agg (m.rcs nw),ints l] s (fun r s'=>r=[B (l.all fun r=>!(getR m.regs r).ref)] ∧ s'=s):=by
 refine hcf J f109_ J ?_
 simp only [chainOf]
 refine er (hbox (dq2 J) J (lq15 J) (qp J (qn (kq2 J) (kq1 J) (eseq (er (pq3 J (qn (kq4 J) (kq1 J) (eblock ?_))))))))
 refine intg_l m nw rl l hl hs 0 (by omega) ?_ ?_
 ·intro j hj
  rw [List.drop_zero] at hj
  refine bqx (sqn (er (qp J (qn (kq1 J) kn (eret (fqr J ?_))))))
  exact ⟨by rw [hj];rfl,rfl⟩
 intro hj
 rw [List.drop_zero] at hj
 refine bqr (sqr (fqr J ?_))
 exact ⟨by rw [hj];rfl,rfl⟩
def VM.obR (m:VM) (r:Int):Option HOb:=if (getR m.regs r).ref=true then obAt m.h.obs (getR m.regs r).n else none
def obT (q:Option HOb):Int:=match q with
 | some o=>o.tag
 | none=>0
def obL (q:Option HOb):List Word:=match q with
 | some o=>o.fs
 | none=>[]
def obC (q:Option HOb):List AV:=[I (match q with | some o=>o.at_ | none=>0),I (obT q),words (obL q)]
theorem object_c (s:Sg) (m:VM) (nw r0:Int) (hi:HInv m.h) (hv:validW m.h.obs m.regs=true) (rl:m.regs.length ≤ 1024) (h0:0 ≤ r0 ∧ r0 ≤ 1023):HC p N108_ [.agg (m.rcs nw),I r0] s (fun r s'=>r=[.agg (obC (m.obR r0)),B (m.obR r0).isSome] ∧ s'=s):=by
 refine hcf J f108_ J ?_
 simp only [chainOf]
 refine er (hbox (dq2 J) J (lq15 J) (hal (dq3 J) (qp J (qn (kq3 J) (kq2 J) (er (pq3 J ?_))))))
 refine hia (y:=.agg [B (getR m.regs r0).ref,I (getR m.regs r0).n]) rfl rfl h0.1 (by rw [Lgm,padR_get rl (by omega)];rfl) rfl ?_
 refine hlda J J (lq2 J) (hal (dq8 J) (hstl J J J J (Nlb J) (lq2 J) (qn (kq3 J) (kq3 J) (eseq (er (pq2 J (qb ?_)))))))
 rintro (_ | _) h1
 ·refine qp J (qn (kq4 J) (kq3 J) (ecT J (er (hbuild J J (lq3 J) (hstl J J J J (Nlb J) (lq3 J) (qp J (qn (kq2 J) (kq1 J) (eret (sqr (fqr J ?_))))))))))
  first
  | exact ⟨by rw [hob];rfl,rfl⟩
  | (have hob:m.obR r0=none:=by rw [VM.obR,if_neg (by simpa using h1)]
     exact ⟨by rw [hob];rfl,rfl⟩)
 refine qp J (qn (kq4 J) (kq3 J) (ecF J (eskip (sqn (er (pq4 J (hlda J J (lq2 J) (pq2 J (hcall J J J (find_c _ m.h _ hi.n40) ?_)))))))))
 rintro _ _ ⟨rfl,rfl⟩
 have hr:(getR m.regs r0).ref=true:=by simpa using h1
 obtain ⟨kf,ob,e1,e2,e3,e4⟩:=obF (getR_has hv hr)
 have hob:m.obR r0=some ob:=by rw [VM.obR,if_pos hr,e3]
 rw [e1]
 refine hia (y:=.agg ob.cs) rfl rfl (by omega) (by rw [Lgm,Int.toNat_natCast,e2];rfl) rfl ?_
 refine hlda J J (lq3 J) (hstl J J J J (Nlb J) (lq3 J) (qp J (qn (kq2 J) (kq1 J) (eret (fqr J ?_)))))
 first
 | exact ⟨by rw [hob];rfl,rfl⟩
 | (have hob:m.obR r0=none:=by rw [VM.obR,if_neg (by simpa using h1)]
    exact ⟨by rw [hob];rfl,rfl⟩)
end Go.Sim.W
