/-
  A part of a proof: see the last text of this claim.
-/
import Derived.Test.YtfejjomhjeioaaaGreatDoorPH
import Derived.Test.YtfejjomhjeioaaaGreatDoorPJ
import Derived.Test.YtfejjomhjeioaaaGreatDoorPB
set_option linter.unusedVariables false
set_option linter.unusedSimpArgs false
namespace Go.Sim.Kd
open Go Go.Sim
theorem IFNode_l (l:List Node) (g:Node → Bool) (f:Nat) (H:∀ a ∈ l,∀ s,HC p f [.agg a.cs] s (fun r s'=>r=[B (g a)] ∧ s'=s)) (i:Nat) (hi:i ≤ l.length) (hs:l.length ≤ 2 ^ 40) {n:Nat} {v:Nat → Bool} {D:List (Nat × List AV)} {S:Sg} {Q:Ex → Fr → Prop}
 (hX:∀ j,(l.drop i).any g=false → Q (.exit 0) ⟨uv (uv (uv (uv (uv e0 9 (B false)) 8 (I j)) 7 (I (l.map Node.enc).length)) 1 (.fn f [] [])) 0 (SL 5 (l.map Node.enc)),(fun _=>none),n,v,D,S⟩) (hR:∀ k:Int,0 ≤ k → (l.drop i).any g=true → Q .ret ⟨uv e0 4 (I k),(fun _=>none),n,v,D,S⟩):EX (callL p) (.loop F149_l1) ⟨uv (uv (uv (uv e0 8 (I i)) 7 (I (l.map Node.enc).length)) 1 (.fn f [] [])) 0 (SL 5 (l.map Node.enc)),(fun _=>none),n,v,D,S⟩ Q:=by
 refine eloop (er (qp J (qb ?_)))
 rintro (_ | _) h1
 ·refine qn (kq5 J) kn (eseq (ecF J (eexit (sqx ?_))))
  exact hX _ (by rw [List.drop_eq_nil_of_le (by simp at h1 ⊢;omega)];rfl)
 refine qn (kq5 J) kn (eseq (ecT J (eskip (sqn (eseq (eblock (er (pq2 J (qn (kq5 J) kn (er (pq3 J ?_)))))))))))
 have hlt:i < l.length:=by simpa using h1
 obtain ⟨a,ha⟩:=get_of_lt hlt
 have hd:=drop_cons ha
 refine hia (y:=.agg a.cs) rfl rfl (by omega) (by simp [ha,Node.enc_eq]) rfl (hlda rfl rfl (lc rfl (lc rfl (lc rfl (lc rfl (lc rfl (ln rfl)))))) (hcall rfl rfl rfl (H a (Lmg ha) _) ?_))
 rintro _ _ ⟨rfl,rfl⟩
 refine qb ?_
 rintro (_ | _) h2
 ·refine qn (kq6 J) kn (ecF J (eskip (bqn (sqn (ereg (hadd J J (i64w (by omega)) (qp J (qk (kq4 J) kn ?_))))))))
  exact IFNode_l l g f H (i + 1) (by omega) hs (fun j h=>hX j (by rw [hd];simp_all)) (fun k hk h=>hR k hk (by rw [hd];simp_all))
 refine qn (kq6 J) kn (ecT J (er (pq2 J (qn (kq1 J) kn (eret (bqr (sqr ?_)))))))
 exact hR i (by omega) (by rw [hd];simp_all)
termination_by l.length - i
decreasing_by all_goals omega
theorem IFNode_c (l:List Node) (g:Node → Bool) (f:Nat) (H:∀ a ∈ l,∀ s,HC p f [.agg a.cs] s (fun r s'=>r=[B (g a)] ∧ s'=s)) (hs:l.length ≤ 2 ^ 40) (s:Sg):HC p N149_ [SL 5 (l.map Node.enc),.fn f [] []] s (fun r s'=>∃ k:Int,r=[I k] ∧ decide (0 ≤ k)=l.any g ∧ s'=s):=by
 refine hcf J f149_ J ?_
 simp only [chainOf]
 refine er (qp J (qn (kq2 J) kn (eseq (er (pq3 J (qn (kq4 J) kn (eblock ?_)))))))
 refine IFNode_l l g f H 0 (by omega) hs ?_ ?_
 ·intro j ha
  refine bqx (sqn (er (qp J (qn (kq1 J) kn (eret (fqr J ?_))))))
  refine ⟨-1,J,?_,J⟩
  rw [List.drop_zero] at ha
  rw [ha]
  rfl
 intro k hk ha
 refine bqr (sqr (fqr J ?_))
 refine ⟨k,J,?_,J⟩
 rw [List.drop_zero] at ha
 rw [ha,decide_eq_true hk]
theorem CFNode_c (l:List Node) (g:Node → Bool) (f:Nat) (H:∀ a ∈ l,∀ s,HC p f [.agg a.cs] s (fun r s'=>r=[B (g a)] ∧ s'=s)) (hs:l.length ≤ 2 ^ 40) (s:Sg):HC p N115_ [SL 5 (l.map Node.enc),.fn f [] []] s (fun r s'=>r=[B (l.any g)] ∧ s'=s):=by
 refine hcf J f115_ J ?_
 simp only [chainOf]
 refine er (qp J (qn (kq2 J) kn (er (pq2 J (hcall J J J (IFNode_c l g f H hs _) ?_)))))
 rintro _ _ ⟨k,rfl,hk,rfl⟩
 refine pq2 J (qn (kq1 J) kn (eret (fqr J ?_)))
 refine ⟨congrArg (fun x=>[B x]) ?_,J⟩
 exact hk
theorem IFBranch_l (l:List Br) (g:Br → Bool) (f:Nat) (H:∀ a ∈ l,∀ s,HC p f [.agg (ints a.vars :: bools a.co :: a.body.cs)] s (fun r s'=>r=[B (g a)] ∧ s'=s)) (i:Nat) (hi:i ≤ l.length) (hs:l.length ≤ 2 ^ 40) {n:Nat} {v:Nat → Bool} {D:List (Nat × List AV)} {S:Sg} {Q:Ex → Fr → Prop}
 (hX:∀ j,(l.drop i).any g=false → Q (.exit 0) ⟨uv (uv (uv (uv (uv e0 9 (B false)) 8 (I j)) 7 (I (l.map Br.enc).length)) 1 (.fn f [] [])) 0 (SL 7 (l.map Br.enc)),(fun _=>none),n,v,D,S⟩) (hR:∀ k:Int,0 ≤ k → (l.drop i).any g=true → Q .ret ⟨uv e0 4 (I k),(fun _=>none),n,v,D,S⟩):EX (callL p) (.loop F150_l1) ⟨uv (uv (uv (uv e0 8 (I i)) 7 (I (l.map Br.enc).length)) 1 (.fn f [] [])) 0 (SL 7 (l.map Br.enc)),(fun _=>none),n,v,D,S⟩ Q:=by
 refine eloop (er (qp J (qb ?_)))
 rintro (_ | _) h1
 ·refine qn (kq5 J) kn (eseq (ecF J (eexit (sqx ?_))))
  exact hX _ (by rw [List.drop_eq_nil_of_le (by simp at h1 ⊢;omega)];rfl)
 refine qn (kq5 J) kn (eseq (ecT J (eskip (sqn (eseq (eblock (er (pq2 J (qn (kq5 J) kn (er (pq3 J ?_)))))))))))
 have hlt:i < l.length:=by simpa using h1
 obtain ⟨a,ha⟩:=get_of_lt hlt
 have hd:=drop_cons ha
 refine hia (y:=.agg (ints a.vars :: bools a.co :: a.body.cs)) rfl rfl (by omega) (by simp [ha,Br.enc_eq]) rfl (hlda rfl rfl (lc rfl (lc rfl (lc rfl (lc rfl (lc rfl (lc rfl (lc rfl (ln rfl)))))))) (hcall rfl rfl rfl (H a (Lmg ha) _) ?_))
 rintro _ _ ⟨rfl,rfl⟩
 refine qb ?_
 rintro (_ | _) h2
 ·refine qn (kq6 J) kn (ecF J (eskip (bqn (sqn (ereg (hadd J J (i64w (by omega)) (qp J (qk (kq4 J) kn ?_))))))))
  exact IFBranch_l l g f H (i + 1) (by omega) hs (fun j h=>hX j (by rw [hd];simp_all)) (fun k hk h=>hR k hk (by rw [hd];simp_all))
 refine qn (kq6 J) kn (ecT J (er (pq2 J (qn (kq1 J) kn (eret (bqr (sqr ?_)))))))
 exact hR i (by omega) (by rw [hd];simp_all)
termination_by l.length - i
decreasing_by all_goals omega
theorem IFBranch_c (l:List Br) (g:Br → Bool) (f:Nat) (H:∀ a ∈ l,∀ s,HC p f [.agg (ints a.vars :: bools a.co :: a.body.cs)] s (fun r s'=>r=[B (g a)] ∧ s'=s)) (hs:l.length ≤ 2 ^ 40) (s:Sg):HC p N150_ [SL 7 (l.map Br.enc),.fn f [] []] s (fun r s'=>∃ k:Int,r=[I k] ∧ decide (0 ≤ k)=l.any g ∧ s'=s):=by
 refine hcf J f150_ J ?_
 simp only [chainOf]
 refine er (qp J (qn (kq2 J) kn (eseq (er (pq3 J (qn (kq4 J) kn (eblock ?_)))))))
 refine IFBranch_l l g f H 0 (by omega) hs ?_ ?_
 ·intro j ha
  refine bqx (sqn (er (qp J (qn (kq1 J) kn (eret (fqr J ?_))))))
  refine ⟨-1,J,?_,J⟩
  rw [List.drop_zero] at ha
  rw [ha]
  rfl
 intro k hk ha
 refine bqr (sqr (fqr J ?_))
 refine ⟨k,J,?_,J⟩
 rw [List.drop_zero] at ha
 rw [ha,decide_eq_true hk]
theorem CFBranch_c (l:List Br) (g:Br → Bool) (f:Nat) (H:∀ a ∈ l,∀ s,HC p f [.agg (ints a.vars :: bools a.co :: a.body.cs)] s (fun r s'=>r=[B (g a)] ∧ s'=s)) (hs:l.length ≤ 2 ^ 40) (s:Sg):HC p N117_ [SL 7 (l.map Br.enc),.fn f [] []] s (fun r s'=>r=[B (l.any g)] ∧ s'=s):=by
 refine hcf J f117_ J ?_
 simp only [chainOf]
 refine er (qp J (qn (kq2 J) kn (er (pq2 J (hcall J J J (IFBranch_c l g f H hs _) ?_)))))
 rintro _ _ ⟨k,rfl,hk,rfl⟩
 refine pq2 J (qn (kq1 J) kn (eret (fqr J ?_)))
 refine ⟨congrArg (fun x=>[B x]) ?_,J⟩
 exact hk
theorem IFArg_l (l:List Arg) (g:Arg → Bool) (f:Nat) (H:∀ a ∈ l,∀ s,HC p f [.agg [I a.ty,B a.co]] s (fun r s'=>r=[B (g a)] ∧ s'=s)) (i:Nat) (hi:i ≤ l.length) (hs:l.length ≤ 2 ^ 40) {n:Nat} {v:Nat → Bool} {D:List (Nat × List AV)} {S:Sg} {Q:Ex → Fr → Prop}
 (hX:∀ j,(l.drop i).any g=false → Q (.exit 0) ⟨uv (uv (uv (uv (uv e0 9 (B false)) 8 (I j)) 7 (I (l.map Arg.enc).length)) 1 (.fn f [] [])) 0 (SL 2 (l.map Arg.enc)),(fun _=>none),n,v,D,S⟩) (hR:∀ k:Int,0 ≤ k → (l.drop i).any g=true → Q .ret ⟨uv e0 4 (I k),(fun _=>none),n,v,D,S⟩):EX (callL p) (.loop F148_l1) ⟨uv (uv (uv (uv e0 8 (I i)) 7 (I (l.map Arg.enc).length)) 1 (.fn f [] [])) 0 (SL 2 (l.map Arg.enc)),(fun _=>none),n,v,D,S⟩ Q:=by
 refine eloop (er (qp J (qb ?_)))
 rintro (_ | _) h1
 ·refine qn (kq5 J) kn (eseq (ecF J (eexit (sqx ?_))))
  exact hX _ (by rw [List.drop_eq_nil_of_le (by simp at h1 ⊢;omega)];rfl)
 refine qn (kq5 J) kn (eseq (ecT J (eskip (sqn (eseq (eblock (er (pq2 J (qn (kq5 J) kn (er (pq3 J ?_)))))))))))
 have hlt:i < l.length:=by simpa using h1
 obtain ⟨a,ha⟩:=get_of_lt hlt
 have hd:=drop_cons ha
 refine hia (y:=.agg [I a.ty,B a.co]) rfl rfl (by omega) (by simp [ha,Arg.enc]) rfl (hlda rfl rfl (lc rfl (lc rfl (ln rfl))) (hcall rfl rfl rfl (H a (Lmg ha) _) ?_))
 rintro _ _ ⟨rfl,rfl⟩
 refine qb ?_
 rintro (_ | _) h2
 ·refine qn (kq6 J) kn (ecF J (eskip (bqn (sqn (ereg (hadd J J (i64w (by omega)) (qp J (qk (kq4 J) kn ?_))))))))
  exact IFArg_l l g f H (i + 1) (by omega) hs (fun j h=>hX j (by rw [hd];simp_all)) (fun k hk h=>hR k hk (by rw [hd];simp_all))
 refine qn (kq6 J) kn (ecT J (er (pq2 J (qn (kq1 J) kn (eret (bqr (sqr ?_)))))))
 exact hR i (by omega) (by rw [hd];simp_all)
termination_by l.length - i
decreasing_by all_goals omega
theorem IFArg_c (l:List Arg) (g:Arg → Bool) (f:Nat) (H:∀ a ∈ l,∀ s,HC p f [.agg [I a.ty,B a.co]] s (fun r s'=>r=[B (g a)] ∧ s'=s)) (hs:l.length ≤ 2 ^ 40) (s:Sg):HC p N148_ [SL 2 (l.map Arg.enc),.fn f [] []] s (fun r s'=>∃ k:Int,r=[I k] ∧ decide (0 ≤ k)=l.any g ∧ s'=s):=by
 refine hcf J f148_ J ?_
 simp only [chainOf]
 refine er (qp J (qn (kq2 J) kn (eseq (er (pq3 J (qn (kq4 J) kn (eblock ?_)))))))
 refine IFArg_l l g f H 0 (by omega) hs ?_ ?_
 ·intro j ha
  refine bqx (sqn (er (qp J (qn (kq1 J) kn (eret (fqr J ?_))))))
  refine ⟨-1,J,?_,J⟩
  rw [List.drop_zero] at ha
  rw [ha]
  rfl
 intro k hk ha
 refine bqr (sqr (fqr J ?_))
 refine ⟨k,J,?_,J⟩
 rw [List.drop_zero] at ha
 rw [ha,decide_eq_true hk]
theorem CFArg_c (l:List Arg) (g:Arg → Bool) (f:Nat) (H:∀ a ∈ l,∀ s,HC p f [.agg [I a.ty,B a.co]] s (fun r s'=>r=[B (g a)] ∧ s'=s)) (hs:l.length ≤ 2 ^ 40) (s:Sg):HC p N113_ [SL 2 (l.map Arg.enc),.fn f [] []] s (fun r s'=>r=[B (l.any g)] ∧ s'=s):=by
 refine hcf J f113_ J ?_
 simp only [chainOf]
 refine er (qp J (qn (kq2 J) kn (er (pq2 J (hcall J J J (IFArg_c l g f H hs _) ?_)))))
 rintro _ _ ⟨k,rfl,hk,rfl⟩
 refine pq2 J (qn (kq1 J) kn (eret (fqr J ?_)))
 refine ⟨congrArg (fun x=>[B x]) ?_,J⟩
 exact hk
theorem typed1_c (s:Sg) (a:Arg):HC p N114_ [.agg [I a.ty,B a.co]] s (fun r s'=>r=[B (decide (a.ty=0))] ∧ s'=s):=by
 refine hcf J f114_ J ?_
 simp only [chainOf]
 refine er (hbox (dc dn J) J (lq2 J) (qp J (qn (kq1 J) (kq1 J) (er (pq4 J (qn (kq1 J) kn (eret (fqr J ?_))))))))
 exact ⟨rfl,rfl⟩
def typedA (l:List Arg):Bool:=!(l.any fun a=>decide (a.ty=0))
theorem typed_c (s:Sg) (l:List Arg) (hs:l.length ≤ 2 ^ 40):HC p N64_ [encArgs l] s (fun r s'=>r=[B (typedA l)] ∧ s'=s):=by
 refine hcf J f64_ J ?_
 simp only [chainOf]
 refine er (qp J (qn (kq1 J) kn (er (qp J (hcall J J J (CFArg_c l _ _ (fun a _ s=>typed1_c s a) hs _) ?_)))))
 rintro _ _ ⟨rfl,rfl⟩
 refine pq2 J (qn (kq1 J) kn (eret (fqr J ?_)))
 exact ⟨rfl,rfl⟩
end Go.Sim.Kd
namespace Go.Sim.Kd
open Go Go.Sim
mutual
def pureN:Node → Bool
 | .mk op n ty args brs=>if (op=3 ∨ op=7 ∨ op=9) ∧ ty=0 then false
   else if op=10 ∨ op=11 ∨ op=1 then false
   else if op=12 then decide (((args.map Node.op)[0]?).getD 0=1) && ((pureNs args)[1]?).getD false
   else if op=14 then decide (((args.map Node.op)[0]?).getD 0=1)
   else (pureNs args).all id && (pureBs brs).all id
def pureNs:List Node → List Bool
 | []=>[]
 | a :: as=>pureN a :: pureNs as
def pureB:Br → Bool
 | .mk _ _ body=>pureN body
def pureBs:List Br → List Bool
 | []=>[]
 | a :: as=>pureB a :: pureBs as
end
theorem pureNs_eq (l:List Node):pureNs l=l.map pureN:=by induction l with
 | nil=>rfl
 | cons a l ih=>simp [pureNs,ih]
theorem pureB_eq (b:Br):pureB b=pureN b.body:=by cases b;rfl
theorem pureBs_eq (l:List Br):pureBs l=l.map fun b=>pureN b.body:=by induction l with
 | nil=>rfl
 | cons a l ih=>simp [pureBs,ih,pureB_eq]
theorem pureN_eq (a:Node):pureN a=if (a.op=3 ∨ a.op=7 ∨ a.op=9) ∧ a.ty=0 then false
 else if a.op=10 ∨ a.op=11 ∨ a.op=1 then false
 else if a.op=12 then decide (((a.args.map Node.op)[0]?).getD 0=1) && ((a.args.map pureN)[1]?).getD false
 else if a.op=14 then decide (((a.args.map Node.op)[0]?).getD 0=1)
 else !(a.args.any fun b=>!pureN b) && !(a.brs.any fun b=>!pureN b.body):=by
 cases a with
 | mk op n ty args brs =>
   simp only [pureN,pureNs_eq,pureBs_eq,Node.op,Node.ty,Node.args,Node.brs]
   have e1:(args.map pureN).all id=!(args.any fun b=>!pureN b):=by
    induction args with
    | nil=>rfl
    | cons b l ih=>simp only [List.map_cons,List.all_cons,List.any_cons,ih];cases pureN b <;> simp
   have e2:(brs.map fun b=>pureN b.body).all id=!(brs.any fun b=>!pureN b.body):=by
    induction brs with
    | nil=>rfl
    | cons b l ih=>simp only [List.map_cons,List.all_cons,List.any_cons,ih];cases pureN b.body <;> simp
   rw [e1,e2]
   first | rfl | (repeat' split) <;> simp_all
theorem vNs_len2 {ds:List Decl} {fs:List CFun}:∀ {l:List Node} {ws:List Int} {X A:Int → Bool},vNs ds fs l ws X A=true → l.length=ws.length
 | [],[],_,_,_=>rfl
 | [],_ :: _,_,_,h=>by simp [vNs] at h
 | _ :: _,[],_,_,h=>by simp [vNs] at h
 | a :: l,w :: ws,X,A,h=>by
   simp only [vNs,Bae] at h
   simp [vNs_len2 h.2]
theorem vBs_mem {ds:List Decl} {fs:List CFun}:∀ {l:List Br} {xs:List Xtor} {X A:Int → Bool},vBs ds fs l xs X A=true → ∀ b ∈ l,∃ X' A',vN ds fs b.body X' A'=true
 | [],_,_,_,_,b,hb=>by cases hb
 | a :: l,[],_,_,h,_,_=>by simp [vBs] at h
 | a :: l,x :: xs,X,A,h,b,hb=>by
   simp only [vBs,Bae] at h
   cases hb with
   | head =>
     have h1:=h.1
     rw [vB_eq] at h1
     simp only [Bae] at h1
     exact ⟨_,_,h1.2⟩
   | tail _ hb=>exact vBs_mem h.2 b hb
theorem vN_parts {ds:List Decl} {fs:List CFun} {a:Node} {X A:Int → Bool} (h:vN ds fs a X A=true):(∀ b ∈ a.args,∃ X' A',vN ds fs b X' A'=true) ∧ (∀ b ∈ a.brs,∃ X' A',vN ds fs b.body X' A'=true) ∧
 ∃ want xs,headOf ds fs a.op a.n a.ty=some (want,xs) ∧ a.args.length=want.length:=by
 rw [vN_eq] at h
 split at h
 ·cases h
 rename_i want xs hh
 simp only [Bae] at h
 exact ⟨fun b hb=>⟨_,_,vNs_mem h.1.2 b hb⟩,vBs_mem h.2,want,xs,hh,vNs_len2 h.1.2⟩
theorem len12 {ds:List Decl} {fs:List CFun} {a:Node} {X A:Int → Bool} (h:vN ds fs a X A=true) (e:a.op=12):a.args.length=2:=by
 obtain ⟨_,_,want,xs,hh,hl⟩:=vN_parts h
 rw [e] at hh
 simp [headOf] at hh
 rw [hl,← hh.2.1];rfl
theorem len14 {ds:List Decl} {fs:List CFun} {a:Node} {X A:Int → Bool} (h:vN ds fs a X A=true) (e:a.op=14):a.args.length=1:=by
 obtain ⟨_,_,want,xs,hh,hl⟩:=vN_parts h
 rw [e] at hh
 simp [headOf] at hh
 rw [hl,← hh.2.1];rfl
def PureC (b:Node):Prop:=∀ s,HC p N65_ [.agg b.cs] s (fun r s'=>r=[B (pureN b)] ∧ s'=s)
theorem pure1_c (b:Node) (H:PureC b) (s:Sg):HC p N116_ [.agg b.cs] s (fun r s'=>r=[B (!pureN b)] ∧ s'=s):=by
 refine hcf J f116_ J ?_
 simp only [chainOf]
 refine er (hbox (dc dn J) J (lq5 J) (qp J (qn (kq1 J) (kq1 J) (er (hlda J J (lq5 J) (hcall J J J (H _) ?_))))))
 rintro _ _ ⟨rfl,rfl⟩
 refine pq2 J (qn (kq1 J) kn (eret (fqr J ?_)))
 exact ⟨rfl,rfl⟩
theorem pure2_c (b:Br) (H:PureC b.body) (s:Sg):HC p N118_ [.agg (ints b.vars :: bools b.co :: b.body.cs)] s (fun r s'=>r=[B (!pureN b.body)] ∧ s'=s):=by
 refine hcf J f118_ J ?_
 simp only [chainOf]
 refine er (hbox (dc dn J) J (lq7 J) (qp J (qn (kq1 J) (kq1 J) (er (qp J (hlda J J (lq5 J) (hcall J J J (H _) ?_)))))))
 rintro _ _ ⟨rfl,rfl⟩
 refine pq2 J (qn (kq1 J) kn (eret (fqr J ?_)))
 exact ⟨rfl,rfl⟩
theorem pure_c0 (ds:List Decl) (fs:List CFun) (a:Node) {X A:Int → Bool} (hv:vN ds fs a X A=true) (hz:a.sz ≤ 2 ^ 40) (H1:∀ b ∈ a.args,PureC b) (H2:∀ b ∈ a.brs,PureC b.body) (s:Sg):HC p N65_ [.agg a.cs] s (fun r s'=>r=[B (pureN a)] ∧ s'=s):=by
 refine hcf J f65_ J ?_
 simp only [chainOf]
 refine er (hbox (dc dn J) J (lq5 J) (qp J (qn (kq1 J) (kq1 J) (eseq (er (pq2 J (qn (kq2 J) (kq1 J) (eblock (eseq (er (qp J (qb ?_))))))))))))
 rintro (_ | _) h1
 refine qp J (qn (kq3 J) (kq1 J) (ecF J (er (qp J (qb ?_)))))
 rintro (_ | _) h2
 refine qp J (qn (kq3 J) (kq1 J) (ecF J (ereg (qp J (qb ?_)))))
 rintro (_ | _) h3
 refine qp J (qn (kq3 J) (kq1 J) (ecF J (eseq (er (qp J (qb ?_))))))
 rintro (_ | _) h4
 refine qp J (qn (kq3 J) (kq1 J) (ecF J (er (qp J (qb ?_)))))
 rintro (_ | _) h5
 refine qp J (qn (kq3 J) (kq1 J) (ecF J (ereg (qp J (qb ?_)))))
 rintro (_ | _) h6
 refine qp J (qn (kq3 J) (kq1 J) (ecF J (er (qp J (qb ?_)))))
 rintro (_ | _) h7
 refine qp J (qn (kq3 J) (kq1 J) (ecF J (er (qp J (qb ?_)))))
 rintro (_ | _) h8
 refine qp rfl (qk (kc rfl (kc rfl kn)) (kc rfl kn) (sqn (ecF rfl (eskip (bqn (sqn (eseq (ereg (qp rfl (qp rfl (hcall rfl rfl rfl (CFNode_c a.args (fun b=>!pureN b) _ (fun b hb s=>pure1_c b (H1 b hb) s) (by have:=a.sz_args;omega) _) ?_)))))))))))
 rintro _ _ ⟨rfl,rfl⟩
 refine qb ?_
 rintro (_ | _) h9
 refine qp rfl (qp rfl (qg rfl (qp rfl (qg rfl (qp rfl (qg rfl (hcall rfl rfl rfl (CFBranch_c a.brs (fun b=>!pureN b.body) _ (fun b hb s=>pure2_c b (H2 b hb) s) (by have:=a.sz_brs;omega) _) ?_)))))))
 rintro _ _ ⟨rfl,rfl⟩
 refine qg J (pq3 J (qn (kq1 J) kn (eret (fqr J ?_))))
 rotate_left
 refine pq2 J (zq4 J (pq2 J (qn (kq1 J) kn (eret (fqr J ?_)))))
 rotate_left
 refine qp J (qn (kq2 J) (kq1 J) (ecT J (er (pq2 J ?_))))
 have hl1:a.args.length=1:=len14 hv (by simp_all)
 obtain ⟨x,hx⟩:=get_of_lt (l:=a.args) (i:=0) (by omega)
 refine hia (y:=.agg x.cs) rfl rfl (by decide) (by simp [hx,Node.enc_eq]) rfl (qp rfl (qp rfl (qp rfl (qp rfl (qk (kc rfl kn) kn (sqn (eret (bqr (sqr (fqr rfl ?_))))))))))
 rotate_left
 refine qp J (qn (kq3 J) (kq1 J) (ecT J (er (pq2 J ?_))))
 have hl2:a.args.length=2:=by first | exact len12 hv (by simp_all) | omega
 obtain ⟨x,hx⟩:=get_of_lt (l:=a.args) (i:=0) (by omega)
 obtain ⟨y,hy⟩:=get_of_lt (l:=a.args) (i:=1) (by omega)
 refine hia (y:=.agg x.cs) rfl rfl (by decide) (by simp [hx,Node.enc_eq]) rfl (qp rfl (qp rfl (qp rfl (qb ?_))))
 rintro (_ | _) h10
 refine qp J (zq5 J (pq2 J (qn (kq1 J) kn (eret (bqr (sqr (fqr J ?_)))))))
 rotate_left
 refine qp rfl (qg rfl (qp rfl (qg rfl (qp rfl (qg rfl (hia (y:=.agg y.cs) rfl rfl (by decide) (by simp [hy,Node.enc_eq]) rfl (qg rfl (hlda rfl rfl (lc rfl (lc rfl (lc rfl (lc rfl (lc rfl (ln rfl)))))) (qg rfl (hcall rfl rfl rfl (H1 y (Lmg hy) _) ?_))))))))))
 rintro _ _ ⟨rfl,rfl⟩
 refine pq2 J (qn (kq1 J) kn (eret (bqr (sqr (fqr J ?_)))))
 rotate_left
 refine qp J (qn (kq3 J) (kq1 J) (ecT J (er (qp J (qn (kq1 J) kn (eret (bqr (sqr (fqr J ?_)))))))))
 rotate_left
 refine qp J (qn (kq3 J) (kq1 J) (ecT J (eskip (sqn (ecT J (er (qp J (qn (kq1 J) kn (eret (bqr (sqr (fqr J ?_))))))))))))
 rotate_left
 refine qp J (qn (kq3 J) (kq1 J) (ecT J (eskip (sqn (ecT J (er (qp J (qn (kq1 J) kn (eret (bqr (sqr (fqr J ?_))))))))))))
 rotate_left
 refine qp J (qn (kq3 J) (kq1 J) (ecT J (er (pq3 J (qb ?_)))))
 rintro (_ | _) h11
 refine qk (kc rfl (kc rfl kn)) (kc rfl kn) (sqn (ecF rfl (eskip (bqn (sqn (eseq (ereg (qp rfl (qp rfl (hcall rfl rfl rfl (CFNode_c a.args (fun b=>!pureN b) _ (fun b hb s=>pure1_c b (H1 b hb) s) (by have:=a.sz_args;omega) _) ?_))))))))))
 rintro _ _ ⟨rfl,rfl⟩
 refine qb ?_
 rintro (_ | _) h12
 refine qp rfl (qp rfl (qg rfl (qp rfl (qg rfl (qp rfl (qg rfl (hcall rfl rfl rfl (CFBranch_c a.brs (fun b=>!pureN b.body) _ (fun b hb s=>pure2_c b (H2 b hb) s) (by have:=a.sz_brs;omega) _) ?_)))))))
 rintro _ _ ⟨rfl,rfl⟩
 refine qg J (pq3 J (qn (kq1 J) kn (eret (fqr J ?_))))
 rotate_left
 refine pq2 J (zq4 J (pq2 J (qn (kq1 J) kn (eret (fqr J ?_)))))
 rotate_left
 refine qn (kq2 J) (kq1 J) (ecT J (er (qp J (qn (kq1 J) kn (eret (bqr (sqr (fqr J ?_))))))))
 rotate_left
 refine qp J (qn (kq3 J) (kq1 J) (ecT J (eskip (sqn (ecT J (er (pq3 J (qb ?_))))))))
 rintro (_ | _) h13
 refine qk (kc rfl (kc rfl kn)) (kc rfl kn) (sqn (ecF rfl (eskip (bqn (sqn (eseq (ereg (qp rfl (qp rfl (hcall rfl rfl rfl (CFNode_c a.args (fun b=>!pureN b) _ (fun b hb s=>pure1_c b (H1 b hb) s) (by have:=a.sz_args;omega) _) ?_))))))))))
 rintro _ _ ⟨rfl,rfl⟩
 refine qb ?_
 rintro (_ | _) h14
 refine qp rfl (qp rfl (qg rfl (qp rfl (qg rfl (qp rfl (qg rfl (hcall rfl rfl rfl (CFBranch_c a.brs (fun b=>!pureN b.body) _ (fun b hb s=>pure2_c b (H2 b hb) s) (by have:=a.sz_brs;omega) _) ?_)))))))
 rintro _ _ ⟨rfl,rfl⟩
 refine qg J (pq3 J (qn (kq1 J) kn (eret (fqr J ?_))))
 rotate_left
 refine pq2 J (zq4 J (pq2 J (qn (kq1 J) kn (eret (fqr J ?_)))))
 rotate_left
 refine qn (kq2 J) (kq1 J) (ecT J (er (qp J (qn (kq1 J) kn (eret (bqr (sqr (fqr J ?_))))))))
 rotate_left
 refine qp J (qn (kq3 J) (kq1 J) (ecT J (eskip (sqn (ecT J (er (pq3 J (qb ?_))))))))
 rintro (_ | _) h15
 refine qk (kc rfl (kc rfl kn)) (kc rfl kn) (sqn (ecF rfl (eskip (bqn (sqn (eseq (ereg (qp rfl (qp rfl (hcall rfl rfl rfl (CFNode_c a.args (fun b=>!pureN b) _ (fun b hb s=>pure1_c b (H1 b hb) s) (by have:=a.sz_args;omega) _) ?_))))))))))
 rintro _ _ ⟨rfl,rfl⟩
 refine qb ?_
 rintro (_ | _) h16
 refine qp rfl (qp rfl (qg rfl (qp rfl (qg rfl (qp rfl (qg rfl (hcall rfl rfl rfl (CFBranch_c a.brs (fun b=>!pureN b.body) _ (fun b hb s=>pure2_c b (H2 b hb) s) (by have:=a.sz_brs;omega) _) ?_)))))))
 rintro _ _ ⟨rfl,rfl⟩
 refine qg J (pq3 J (qn (kq1 J) kn (eret (fqr J ?_))))
 rotate_left
 refine pq2 J (zq4 J (pq2 J (qn (kq1 J) kn (eret (fqr J ?_)))))
 rotate_left
 refine qn (kq2 J) (kq1 J) (ecT J (er (qp J (qn (kq1 J) kn (eret (bqr (sqr (fqr J ?_))))))))
 rotate_left
 all_goals
  refine ⟨congrArg (fun x=>[B x]) ?_,J⟩
  rw [pureN_eq a]
  simp_all [-List.any_eq_true,-List.any_eq_false]
theorem pure_c (ds:List Decl) (fs:List CFun) (a:Node):∀ {X A:Int → Bool},vN ds fs a X A=true → a.sz ≤ 2 ^ 40 → PureC a:=by
 induction a using Node.ind with
 | h a ih1 ih2 =>
   intro X A hv hz s
   obtain ⟨p1,p2,_⟩:=vN_parts hv
   exact pure_c0 ds fs a hv hz (fun b hb=>by obtain ⟨_,_,h⟩:=p1 b hb;exact ih1 b hb h (by have:=Node.sz_arg hb;omega)) (fun b hb=>by obtain ⟨_,_,h⟩:=p2 b hb;exact ih2 b hb h (by have:=Node.sz_br hb;have:=b.sz_body;omega)) s
end Go.Sim.Kd
namespace Go.Sim.Kd
open Go Go.Sim
def xtorsT (l:List Xtor):Bool:=l.all fun x=>typedA x.args
def funP (g:CFun):Bool:=typedA g.params && pureN g.body
def isPureC (c:Core):Bool:=(c.decls.all fun d=>xtorsT d.xtors) && c.funs.all funP && decide (((c.funs.map fun g=>g.params.length)[0]?).getD 0=0)
theorem iP_l2 (c:Core) (l:List Xtor) (hx:∀ x ∈ l,x.args.length ≤ 2 ^ 40) (i:Nat) (hi:i ≤ l.length) (hs:l.length ≤ 2 ^ 40) {x10 x11 x12:AV} {n:Nat} {v:Nat → Bool} {D:List (Nat × List AV)} {S:Sg} {Q:Ex → Fr → Prop}
 (hX:∀ j,xtorsT (l.drop i)=true → Q (.exit 2) ⟨upd (uv (uv (uv (uv (uv (uv (uv e0 20 (B false)) 19 (I j)) 18 (I (l.map Xtor.enc).length)) 17 (.slice .none 2 (l.map Xtor.enc))) 12 (x12)) 11 (x11)) 10 (x10)) 1 (some (.loc 1 0)),upd ((fun _=>none)) 1 (some (Core.cs c)),n,v,D,S⟩) (hR:xtorsT (l.drop i)=false → Q .ret ⟨uv e0 2 (B false),(fun _=>none),n,v,D,S⟩):EX (callL p) (.loop F20_l2) ⟨upd (uv (uv (uv (uv (uv (uv e0 19 (I i)) 18 (I (l.map Xtor.enc).length)) 17 (.slice .none 2 (l.map Xtor.enc))) 12 (x12)) 11 (x11)) 10 (x10)) 1 (some (.loc 1 0)),upd ((fun _=>none)) 1 (some (Core.cs c)),n,v,D,S⟩ Q:=by
 refine eloop (er (qp J (qb ?_)))
 rintro (_ | _) h1
 ·refine qn (kq8 J) (kq1 J) (eseq (ecF J (eexit (sqx ?_))))
  exact hX _ (by rw [List.drop_eq_nil_of_le (by simp at h1 ⊢;omega)];rfl)
 refine qn (kq8 J) (kq1 J) (eseq (ecT J (eskip (sqn (eseq (eblock (er ?_)))))))
 have hlt:i < l.length:=by simpa using h1
 obtain ⟨a,ha⟩:=get_of_lt hlt
 have hd:=drop_cons ha
 refine hia (y:=Xtor.enc a) rfl rfl (by omega) (by simp [ha]) rfl (hlda rfl rfl (lc rfl (lc rfl (ln rfl))) (hal (dc (dc (dc (dc (dc (dc (dc (dc (dc (dc dn rfl) rfl) rfl) rfl) rfl) rfl) rfl) rfl) rfl) rfl) (hstl rfl rfl rfl rfl (Nlb rfl) (lc rfl (lc rfl (ln rfl))) (qk (kc rfl (kc rfl (kc rfl (kc rfl (kc rfl (kc rfl (kc rfl (kc rfl kn)))))))) (kc rfl (kc rfl kn)) (sqn (eseq (ereg (qp rfl (qp rfl (hcall rfl rfl rfl (typed_c _ a.args (hx a (Lmg ha))) ?_))))))))))
 rintro _ _ ⟨rfl,rfl⟩
 refine qb ?_
 rintro (_ | _) h2
 ·refine qp J (qn (kq8 J) (kq1 J) (ecT J (er (qp J (qn (kq1 J) kn (eret (bqr (sqr ?_))))))))
  exact hR (by rw [hd];simp_all [xtorsT])
 refine qp J (qn (kq8 J) (kq1 J) (ecF J (eskip (bqn (sqn (ereg (hadd J J (i64w (by omega)) (qp J (qk (kq7 J) (kq1 J) ?_)))))))))
 exact iP_l2 c l hx (i + 1) (by omega) hs (fun j h=>hX j (by rw [hd];simp_all [xtorsT])) (fun h=>hR (by rw [hd];simp_all [xtorsT]))
termination_by l.length - i
decreasing_by all_goals omega
theorem iP_l1 (c:Core) (l:List Decl) (hx:∀ d ∈ l,∀ x ∈ d.xtors,x.args.length ≤ 2 ^ 40) (hxl:∀ d ∈ l,d.xtors.length ≤ 2 ^ 40) (i:Nat) (hi:i ≤ l.length) (hs:l.length ≤ 2 ^ 40) {n:Nat} {v:Nat → Bool} {D:List (Nat × List AV)} {S:Sg} {Q:Ex → Fr → Prop}
 (hX:∀ j,((l.drop i).all fun d=>xtorsT d.xtors)=true → Q (.exit 0) ⟨upd (uv (uv (uv (uv e0 13 (B false)) 12 (I j)) 11 (I (l.map Decl.enc).length)) 10 (.slice .none 3 (l.map Decl.enc))) 1 (some (.loc 1 0)),upd ((fun _=>none)) 1 (some (Core.cs c)),n,v,D,S⟩) (hR:((l.drop i).all fun d=>xtorsT d.xtors)=false → Q .ret ⟨uv e0 2 (B false),(fun _=>none),n,v,D,S⟩):EX (callL p) (.loop F20_l1) ⟨upd (uv (uv (uv e0 12 (I i)) 11 (I (l.map Decl.enc).length)) 10 (.slice .none 3 (l.map Decl.enc))) 1 (some (.loc 1 0)),upd ((fun _=>none)) 1 (some (Core.cs c)),n,v,D,S⟩ Q:=by
 refine eloop (er (qp J (qb ?_)))
 rintro (_ | _) h1
 ·refine qn (kq5 J) (kq1 J) (eseq (ecF J (eexit (sqx ?_))))
  exact hX _ (by rw [List.drop_eq_nil_of_le (by simp at h1 ⊢;omega)];rfl)
 refine qn (kq5 J) (kq1 J) (eseq (ecT J (eskip (sqn (eseq (eblock (er ?_)))))))
 have hlt:i < l.length:=by simpa using h1
 obtain ⟨a,ha⟩:=get_of_lt hlt
 have hd:=drop_cons ha
 refine hia (y:=Decl.enc a) rfl rfl (by omega) (by simp [ha]) rfl (hlda rfl rfl (lc rfl (lc rfl (lc rfl (ln rfl)))) (hal (dc (dc (dc (dc (dc (dc (dc dn rfl) rfl) rfl) rfl) rfl) rfl) rfl) (hstl rfl rfl rfl rfl (Nlb rfl) (lc rfl (lc rfl (lc rfl (ln rfl)))) (qk (kc rfl (kc rfl (kc rfl (kc rfl (kc rfl kn))))) (kc rfl (kc rfl kn)) (sqn (eseq (ereg (qp rfl (qp rfl (qp rfl (qp rfl (qk (kc rfl (kc rfl (kc rfl (kc rfl (kc rfl (kc rfl (kc rfl kn))))))) (kc rfl kn) (sqn (eblock ?_))))))))))))))
 refine iP_l2 c a.xtors (hx a (Lmg ha)) 0 (by omega) (hxl a (Lmg ha)) ?_ ?_
 ·intro j ha2
  refine bqx (bqn (sqn (ereg (hadd J J (i64w (by omega)) (qp J (qk (kq4 J) (kq1 J) ?_))))))
  exact iP_l1 c l hx hxl (i + 1) (by omega) hs (fun j h=>hX j (by rw [hd];simp_all)) (fun h=>hR (by rw [hd];simp_all))
 intro ha2
 refine bqr (bqr (sqr ?_))
 exact hR (by rw [hd];simp_all)
termination_by l.length - i
decreasing_by all_goals omega
theorem iP_l3 (c:Core) (l:List CFun) (hp:∀ g ∈ l,g.params.length ≤ 2 ^ 40) (H:∀ g ∈ l,PureC g.body) (i:Nat) (hi:i ≤ l.length) (hs:l.length ≤ 2 ^ 40) {n:Nat} {v:Nat → Bool} {D:List (Nat × List AV)} {S:Sg} {Q:Ex → Fr → Prop}
 (hX:∀ j,(l.drop i).all funP=true → Q (.exit 4) ⟨upd (uv (uv (uv (uv e0 33 (B false)) 32 (I j)) 31 (I (l.map CFun.enc).length)) 30 (.slice .none 8 (l.map CFun.enc))) 1 (some (.loc 1 0)),upd ((fun _=>none)) 1 (some (Core.cs c)),n,v,D,S⟩) (hR:(l.drop i).all funP=false → Q .ret ⟨uv e0 2 (B false),(fun _=>none),n,v,D,S⟩):EX (callL p) (.loop F20_l3) ⟨upd (uv (uv (uv e0 32 (I i)) 31 (I (l.map CFun.enc).length)) 30 (.slice .none 8 (l.map CFun.enc))) 1 (some (.loc 1 0)),upd ((fun _=>none)) 1 (some (Core.cs c)),n,v,D,S⟩ Q:=by
 refine eloop (er (qp J (qb ?_)))
 rintro (_ | _) h1
 ·refine qn (kq5 J) (kq1 J) (eseq (ecF J (eexit (sqx ?_))))
  exact hX _ (by rw [List.drop_eq_nil_of_le (by simp at h1 ⊢;omega)];rfl)
 refine qn (kq5 J) (kq1 J) (eseq (ecT J (eskip (sqn (eseq (eblock (er ?_)))))))
 have hlt:i < l.length:=by simpa using h1
 obtain ⟨a,ha⟩:=get_of_lt hlt
 have hd:=drop_cons ha
 refine hia (y:=.agg (Str a.name :: encArgs a.params :: ints a.vars :: a.body.cs)) rfl rfl (by omega) (by simp [ha,Node.enc_eq,Br.enc_eq,CFun.enc_eq]) rfl (hlda rfl rfl (lc rfl (lc rfl (lc rfl (lc rfl (lc rfl (lc rfl (lc rfl (lc rfl (ln rfl))))))))) (hal (dc (dc (dc (dc (dc (dc (dc dn rfl) rfl) rfl) rfl) rfl) rfl) rfl) (hstl rfl rfl rfl rfl (Nlb rfl) (lc rfl (lc rfl (lc rfl (lc rfl (lc rfl (lc rfl (lc rfl (lc rfl (ln rfl))))))))) (qk (kc rfl (kc rfl (kc rfl (kc rfl (kc rfl kn))))) (kc rfl (kc rfl kn)) (sqn (eseq (ereg (qp rfl (qp rfl (hcall rfl rfl rfl (typed_c _ a.params (hp a (Lmg ha))) ?_))))))))))
 rintro _ _ ⟨rfl,rfl⟩
 refine qb ?_
 rintro (_ | _) h2
 ·refine pq2 J (zq4 J (qp J (qn (kq5 J) (kq1 J) (ecT J (er (qp J (qn (kq1 J) kn (eret (bqr (sqr ?_))))))))))
  exact hR (by rw [hd];simp_all [funP])
 refine pq2 J (qg J (qp J (qg J (hlda J J (lq5 J) (qg J (hcall J J J (H a (Lmg ha) _) ?_))))))
 rintro _ _ ⟨rfl,rfl⟩
 refine qb ?_
 rintro (_ | _) h3
 ·refine qg J (pq2 J (qn (kq5 J) (kq1 J) (ecT J (er (qp J (qn (kq1 J) kn (eret (bqr (sqr ?_)))))))))
  exact hR (by rw [hd];simp_all [funP])
 refine qg J (pq2 J (qn (kq5 J) (kq1 J) (ecF J (eskip (bqn (sqn (ereg (hadd J J (i64w (by omega)) (qp J (qk (kq4 J) (kq1 J) ?_))))))))))
 exact iP_l3 c l hp H (i + 1) (by omega) hs (fun j h=>hX j (by rw [hd];simp_all [funP])) (fun h=>hR (by rw [hd];simp_all [funP]))
termination_by l.length - i
decreasing_by all_goals omega
theorem isPure_c0 (s:Sg) (c:Core) (hc:CoreSz c) (hxl:∀ d ∈ c.decls,d.xtors.length ≤ 2 ^ 40) (hfl:c.funs.length ≤ 2 ^ 40) (h1:1 ≤ c.funs.length) (H:∀ g ∈ c.funs,PureC g.body):HC p N20_ [.agg (Core.cs c)] s (fun r s'=>r=[B (isPureC c)] ∧ s'=s):=by
 refine hcf J f20_ J ?_
 simp only [chainOf]
 refine er (hbox (dc dn J) J (lq2 J) (qp J (qn (kq1 J) (kq1 J) (eseq (er (pq4 J (qn (kq4 J) (kq1 J) (eblock ?_))))))))
 refine iP_l1 c c.decls hc.xa hxl 0 (by omega) hc.dl ?_ ?_
 intro j hk
 refine bqx (sqn (eseq (er (pq4 J (qn (kq4 J) (kq1 J) (eblock ?_))))))
 refine iP_l3 c c.funs hc.ga H 0 (by omega) hfl ?_ ?_
 intro q hq
 refine bqx (sqn (er (pq2 J ?_)))
 obtain ⟨g0,hg0⟩:=get_of_lt (l:=c.funs) (i:=0) (by omega)
 refine hia (y:=.agg (Str g0.name :: encArgs g0.params :: ints g0.vars :: g0.body.cs)) rfl rfl (by decide) (by simp [hg0,CFun.enc_eq]) rfl (qp rfl (qp rfl (qp rfl (qp rfl (qp rfl (qk (kc rfl kn) kn (sqn (eret (fqr rfl ?_)))))))))
 rotate_left
 intro hq
 refine bqr (sqr (fqr J ?_))
 rotate_left
 intro hk
 refine bqr (sqr (fqr J ?_))
 rotate_left
 all_goals
  refine ⟨congrArg (fun x=>[B x]) ?_,J⟩
  simp_all [isPureC,-List.all_eq_true,-List.all_eq_false] <;> omega
theorem isPure_c (s:Sg) (c:Core) (hc:CoreSz c) (hxl:∀ d ∈ c.decls,d.xtors.length ≤ 2 ^ 40) (hfl:c.funs.length ≤ 2 ^ 40) (hok:coreOk c=true) (hbz:∀ g ∈ c.funs,g.body.sz ≤ 2 ^ 40):HC p N20_ [.agg (Core.cs c)] s (fun r s'=>r=[B (isPureC c)] ∧ s'=s):=by
 refine isPure_c0 s c hc hxl hfl ?_ fun g hg=>?_
 ·have h:=hok
  unfold coreOk headsOk at h
  simp only [Bae,Dte] at h
  omega
 have h:=(core_body hok g hg).2.2.2
 exact pure_c _ _ _ h (hbz g hg)
theorem Pure_c (s:Sg) (hQ:QOK s) (c:Core) (hc:CoreSz c) (hxl:∀ d ∈ c.decls,d.xtors.length ≤ 2 ^ 40) (hfl:c.funs.length ≤ 2 ^ 40) (hfv:∀ g ∈ c.funs,g.vars.length ≤ 2 ^ 40) (hbz:∀ g ∈ c.funs,g.body.sz ≤ 2 ^ 40):HC p N8_ [.agg (Core.cs c)] s (fun r s'=>r=[B (coreOk c && isPureC c),I (if coreOk c=true then 0 else 60)] ∧ Ext s s'):=by
 refine hcf J f8_ J ?_
 simp only [chainOf]
 refine er (hbox (dc dn J) J (lq2 J) (pq2 J (qn (kq1 J) (kq1 J) (eseq (er (hlda J J (lq2 J) (hcall J J J (cValid_c _ hQ c hc hfv hbz) ?_)))))))
 rintro _ S1 ⟨rfl,hE⟩
 refine qb ?_
 rintro (_ | _) h1
 ·refine qp J (qn (kq2 J) (kq1 J) (ecT J (er (pq2 J (qn (kq2 J) kn (eret (sqr (fqr J ?_))))))))
  simp_all [AV.ers,AV.er]
 refine qp J (qn (kq2 J) (kq1 J) (ecF J (eskip (sqn (er (hlda J J (lq2 J) (hcall J J J (isPure_c _ c hc hxl hfl (by simp_all) hbz) ?_)))))))
 rintro _ _ ⟨rfl,rfl⟩
 refine pq2 J (qn (kq2 J) kn (eret (fqr J ?_)))
 simp_all [AV.ers,AV.er]
end Go.Sim.Kd
namespace Go.Sim.Kd
open Go Go.Sim
structure ExtM (s s':Sg):Prop where
 e:Ext s s'
 mu:∀ g,g < s.mn → s'.mu g=s.mu g
 mn:s.mn ≤ s'.mn
theorem ExtM.refl (s:Sg):ExtM s s:=⟨Ext.refl s,fun _ _=>rfl,Nat.le_refl _⟩
theorem ExtM.trans {a b c:Sg} (h:ExtM a b) (k:ExtM b c):ExtM a c:=⟨h.e.trans k.e,fun g hg=>(k.mu g (Nat.lt_of_lt_of_le hg h.mn)).trans (h.mu g hg),Nat.le_trans h.mn k.mn⟩
theorem ExtM.new {s:Sg} {o:AObj}:ExtM s (s.new o):=⟨Ext.new,fun _ _=>rfl,Nat.le_refl _⟩
def DQ (s:Sg):Prop:=dualsIn s=true
theorem DQ.ext {s s':Sg} (h:DQ s) (e:ExtM s s'):DQ s':=by
 unfold DQ dualsIn at *
 rw [e.e.Q]
 exact h
def dArg (a:Arg):Arg:=⟨a.ty,!a.co⟩
def dXtor (x:Xtor):Xtor:=⟨x.name,x.args.map dArg⟩
def dDecl (d:Decl):Decl:=⟨d.name,!d.codata,d.xtors.map dXtor⟩
def dualOp (n:Int):Int:=(dualsL[n.toNat]?).getD 0
mutual
def dualN:Node → Node
 | .mk op n ty args brs=>.mk (dualOp op) n ty (if op=9 then (dualNs args).reverse else dualNs args) (dualBs brs)
def dualNs:List Node → List Node
 | []=>[]
 | a :: as=>dualN a :: dualNs as
def dualB:Br → Br
 | .mk vars co body=>.mk vars (co.map not) (dualN body)
def dualBs:List Br → List Br
 | []=>[]
 | a :: as=>dualB a :: dualBs as
end
theorem dualNs_eq (l:List Node):dualNs l=l.map dualN:=by induction l with
 | nil=>rfl
 | cons a l ih=>simp [dualNs,ih]
theorem dualBs_eq (l:List Br):dualBs l=l.map dualB:=by induction l with
 | nil=>rfl
 | cons a l ih=>simp [dualBs,ih]
theorem dualN_eq (a:Node):dualN a=.mk (dualOp a.op) a.n a.ty (if a.op=9 then (a.args.map dualN).reverse else a.args.map dualN) (a.brs.map dualB):=by
 cases a
 simp only [dualN,dualNs_eq,dualBs_eq,Node.op,Node.n,Node.ty,Node.args,Node.brs]
 rename_i op n ty args brs
 by_cases h:op=9 <;> simp [h]
theorem dualB_eq (b:Br):dualB b=.mk b.vars (b.co.map not) (dualN b.body):=by
 cases b
 rfl
def dFun (g:CFun):CFun:=⟨g.name,g.params.map dArg,g.vars,dualN g.body⟩
def dualC (c:Core):Core:=⟨c.decls.map dDecl,c.funs.map dFun⟩
theorem eachArg_l (l:List Arg) (g:Arg → Arg) (f:Nat) (H:∀ a ∈ l,∀ s,DQ s → HC p f [.agg [I a.ty,B a.co]] s (fun r s'=>r=[.agg [I (g a).ty,B (g a).co]] ∧ ExtM s s')) (o:Own) (i:Nat) (hi:i ≤ l.length) (hs:l.length ≤ 2 ^ 30) {n:Nat} {v:Nat → Bool} {D:List (Nat × List AV)} {S:Sg} {Q:Ex → Fr → Prop}
 (hD:DQ S) (hc:Can o v) (hX:∀ j n' v' o' S',Can o' v' → ExtM S S' → Q (.exit 0) ⟨uv (uv (uv (uv (uv (uv e0 11 (B false)) 10 (I j)) 9 (I (l.map Arg.enc).length)) 8 (SL 2 (l.map Arg.enc))) 5 (.slice o' 2 (l.map (fun a=>Arg.enc (g a))))) 1 (.fn f [] []),(fun _=>none),n',v',D,S'⟩):EX (callL p) (.loop F25_l1) ⟨uv (uv (uv (uv (uv e0 10 (I i)) 9 (I (l.map Arg.enc).length)) 8 (SL 2 (l.map Arg.enc))) 5 (.slice o 2 ((l.take i).map (fun a=>Arg.enc (g a))))) 1 (.fn f [] []),(fun _=>none),n,v,D,S⟩ Q:=by
 refine eloop (er (qp J (qb ?_)))
 rintro (_ | _) h1
 ·refine qn (kq6 J) kn (eseq (ecF J (eexit (sqx ?_))))
  have he:i=l.length:=by simp at h1;omega
  subst he
  rw [List.take_length]
  exact hX _ _ _ _ _ hc (ExtM.refl _)
 refine qn (kq6 J) kn (eseq (ecT J (eskip (sqn (eseq (eblock (er ?_)))))))
 have hlt:i < l.length:=by simpa using h1
 obtain ⟨a,ha⟩:=get_of_lt hlt
 have hd:=drop_cons ha
 refine hia (y:=.agg [I a.ty,B a.co]) rfl rfl (by omega) (by simp [ha,Arg.enc]) rfl (hlda rfl rfl (lc rfl (lc rfl (ln rfl))) (hal (dc (dc (dc (dc (dc (dc (dc (dc dn rfl) rfl) rfl) rfl) rfl) rfl) rfl) rfl) (hstl rfl rfl rfl rfl (Nlb rfl) (lc rfl (lc rfl (ln rfl))) (qk (kc rfl (kc rfl (kc rfl (kc rfl (kc rfl (kc rfl kn)))))) (kc rfl kn) (sqn (ereg (qp rfl (qp rfl (hlda rfl rfl (lc rfl (lc rfl (ln rfl))) (hcall rfl rfl rfl (H a (Lmg ha) _ hD) ?_))))))))))
 rintro _ S1 ⟨rfl,hE⟩
 refine hbsl rfl rfl (lc rfl (ln rfl)) (hapC rfl rfl hc (by simp) (by simp;omega) (r:=(l.take (i + 1)).map (fun a=>Arg.enc (g a))) (by rw [← take_map (g:=fun a=>Arg.enc (g a)) ha];(first | (simp [AV.ers,AV.er,Arg.enc];done) | (simp [AV.ers,AV.er,Arg.enc];rfl))) ?_)
 intro v1 hc1 _
 refine qp J (qk (kq5 J) kn (bqn (sqn (ereg (hadd J J (i64w (by omega)) (qp J (qk (kq5 J) kn ?_)))))))
 exact eachArg_l l g f H (.tip n) (i + 1) (by omega) hs (hD.ext hE) hc1 (fun j n' v' o' S' h1 h2=>hX j n' v' o' S' h1 (hE.trans h2))
termination_by l.length - i
decreasing_by all_goals omega
theorem eachArg_c (l:List Arg) (g:Arg → Arg) (f:Nat) (H:∀ a ∈ l,∀ s,DQ s → HC p f [.agg [I a.ty,B a.co]] s (fun r s'=>r=[.agg [I (g a).ty,B (g a).co]] ∧ ExtM s s')) (hs:l.length ≤ 2 ^ 30) (s:Sg) (hD:DQ s):HC p N25_ [SL 2 (l.map Arg.enc),.fn f [] []] s (fun r s'=>r=[SL 2 (l.map (fun a=>Arg.enc (g a)))] ∧ ExtM s s'):=by
 refine hcf J f25_ J ?_
 simp only [chainOf]
 refine er (qp J (qn (kq2 J) kn (er (qp J (qn (kq3 J) kn (eseq (er (pq3 J (qn (kq5 J) kn (eblock (eachArg_l l g f H .full 0 (by omega) hs hD trivial ?_)))))))))))
 intro j n' v' o' S' hc hE
 refine bqx (sqn (er (pq2 J (qn (kq1 J) kn (eret (fqr J ?_))))))
 exact ⟨rfl,hE⟩
theorem eachXtor_l (l:List Xtor) (g:Xtor → Xtor) (f:Nat) (H:∀ a ∈ l,∀ s,DQ s → HC p f [.agg [Str a.name,encArgs a.args]] s (fun r s'=>r=[.agg [Str (g a).name,encArgs (g a).args]] ∧ ExtM s s')) (o:Own) (i:Nat) (hi:i ≤ l.length) (hs:l.length ≤ 2 ^ 30) {n:Nat} {v:Nat → Bool} {D:List (Nat × List AV)} {S:Sg} {Q:Ex → Fr → Prop}
 (hD:DQ S) (hc:Can o v) (hX:∀ j n' v' o' S',Can o' v' → ExtM S S' → Q (.exit 0) ⟨uv (uv (uv (uv (uv (uv e0 11 (B false)) 10 (I j)) 9 (I (l.map Xtor.enc).length)) 8 (SL 2 (l.map Xtor.enc))) 5 (.slice o' 2 (l.map (fun a=>Xtor.enc (g a))))) 1 (.fn f [] []),(fun _=>none),n',v',D,S'⟩):EX (callL p) (.loop F23_l1) ⟨uv (uv (uv (uv (uv e0 10 (I i)) 9 (I (l.map Xtor.enc).length)) 8 (SL 2 (l.map Xtor.enc))) 5 (.slice o 2 ((l.take i).map (fun a=>Xtor.enc (g a))))) 1 (.fn f [] []),(fun _=>none),n,v,D,S⟩ Q:=by
 refine eloop (er (qp J (qb ?_)))
 rintro (_ | _) h1
 ·refine qn (kq6 J) kn (eseq (ecF J (eexit (sqx ?_))))
  have he:i=l.length:=by simp at h1;omega
  subst he
  rw [List.take_length]
  exact hX _ _ _ _ _ hc (ExtM.refl _)
 refine qn (kq6 J) kn (eseq (ecT J (eskip (sqn (eseq (eblock (er ?_)))))))
 have hlt:i < l.length:=by simpa using h1
 obtain ⟨a,ha⟩:=get_of_lt hlt
 have hd:=drop_cons ha
 refine hia (y:=.agg [Str a.name,encArgs a.args]) rfl rfl (by omega) (by simp [ha,Xtor.enc]) rfl (hlda rfl rfl (lc rfl (lc rfl (ln rfl))) (hal (dc (dc (dc (dc (dc (dc (dc (dc dn rfl) rfl) rfl) rfl) rfl) rfl) rfl) rfl) (hstl rfl rfl rfl rfl (Nlb rfl) (lc rfl (lc rfl (ln rfl))) (qk (kc rfl (kc rfl (kc rfl (kc rfl (kc rfl (kc rfl kn)))))) (kc rfl kn) (sqn (ereg (qp rfl (qp rfl (hlda rfl rfl (lc rfl (lc rfl (ln rfl))) (hcall rfl rfl rfl (H a (Lmg ha) _ hD) ?_))))))))))
 rintro _ S1 ⟨rfl,hE⟩
 refine hbsl rfl rfl (lc rfl (ln rfl)) (hapC rfl rfl hc (by simp) (by simp;omega) (r:=(l.take (i + 1)).map (fun a=>Xtor.enc (g a))) (by rw [← take_map (g:=fun a=>Xtor.enc (g a)) ha];(first | (simp [AV.ers,AV.er,Xtor.enc];done) | (simp [AV.ers,AV.er,Xtor.enc];rfl))) ?_)
 intro v1 hc1 _
 refine qp J (qk (kq5 J) kn (bqn (sqn (ereg (hadd J J (i64w (by omega)) (qp J (qk (kq5 J) kn ?_)))))))
 exact eachXtor_l l g f H (.tip n) (i + 1) (by omega) hs (hD.ext hE) hc1 (fun j n' v' o' S' h1 h2=>hX j n' v' o' S' h1 (hE.trans h2))
termination_by l.length - i
decreasing_by all_goals omega
theorem eachXtor_c (l:List Xtor) (g:Xtor → Xtor) (f:Nat) (H:∀ a ∈ l,∀ s,DQ s → HC p f [.agg [Str a.name,encArgs a.args]] s (fun r s'=>r=[.agg [Str (g a).name,encArgs (g a).args]] ∧ ExtM s s')) (hs:l.length ≤ 2 ^ 30) (s:Sg) (hD:DQ s):HC p N23_ [SL 2 (l.map Xtor.enc),.fn f [] []] s (fun r s'=>r=[SL 2 (l.map (fun a=>Xtor.enc (g a)))] ∧ ExtM s s'):=by
 refine hcf J f23_ J ?_
 simp only [chainOf]
 refine er (qp J (qn (kq2 J) kn (er (qp J (qn (kq3 J) kn (eseq (er (pq3 J (qn (kq5 J) kn (eblock (eachXtor_l l g f H .full 0 (by omega) hs hD trivial ?_)))))))))))
 intro j n' v' o' S' hc hE
 refine bqx (sqn (er (pq2 J (qn (kq1 J) kn (eret (fqr J ?_))))))
 exact ⟨rfl,hE⟩
theorem eachDecl_l (l:List Decl) (g:Decl → Decl) (f:Nat) (H:∀ a ∈ l,∀ s,DQ s → HC p f [.agg [Str a.name,B a.codata,SL 2 (a.xtors.map Xtor.enc)]] s (fun r s'=>r=[.agg [Str (g a).name,B (g a).codata,SL 2 ((g a).xtors.map Xtor.enc)]] ∧ ExtM s s')) (o:Own) (i:Nat) (hi:i ≤ l.length) (hs:l.length ≤ 2 ^ 30) {n:Nat} {v:Nat → Bool} {D:List (Nat × List AV)} {S:Sg} {Q:Ex → Fr → Prop}
 (hD:DQ S) (hc:Can o v) (hX:∀ j n' v' o' S',Can o' v' → ExtM S S' → Q (.exit 0) ⟨uv (uv (uv (uv (uv (uv e0 11 (B false)) 10 (I j)) 9 (I (l.map Decl.enc).length)) 8 (SL 3 (l.map Decl.enc))) 5 (.slice o' 3 (l.map (fun a=>Decl.enc (g a))))) 1 (.fn f [] []),(fun _=>none),n',v',D,S'⟩):EX (callL p) (.loop F21_l1) ⟨uv (uv (uv (uv (uv e0 10 (I i)) 9 (I (l.map Decl.enc).length)) 8 (SL 3 (l.map Decl.enc))) 5 (.slice o 3 ((l.take i).map (fun a=>Decl.enc (g a))))) 1 (.fn f [] []),(fun _=>none),n,v,D,S⟩ Q:=by
 refine eloop (er (qp J (qb ?_)))
 rintro (_ | _) h1
 ·refine qn (kq6 J) kn (eseq (ecF J (eexit (sqx ?_))))
  have he:i=l.length:=by simp at h1;omega
  subst he
  rw [List.take_length]
  exact hX _ _ _ _ _ hc (ExtM.refl _)
 refine qn (kq6 J) kn (eseq (ecT J (eskip (sqn (eseq (eblock (er ?_)))))))
 have hlt:i < l.length:=by simpa using h1
 obtain ⟨a,ha⟩:=get_of_lt hlt
 have hd:=drop_cons ha
 refine hia (y:=.agg [Str a.name,B a.codata,SL 2 (a.xtors.map Xtor.enc)]) rfl rfl (by omega) (by simp [ha,Decl.enc]) rfl (hlda rfl rfl (lc rfl (lc rfl (lc rfl (ln rfl)))) (hal (dc (dc (dc (dc (dc (dc (dc (dc dn rfl) rfl) rfl) rfl) rfl) rfl) rfl) rfl) (hstl rfl rfl rfl rfl (Nlb rfl) (lc rfl (lc rfl (lc rfl (ln rfl)))) (qk (kc rfl (kc rfl (kc rfl (kc rfl (kc rfl (kc rfl kn)))))) (kc rfl kn) (sqn (ereg (qp rfl (qp rfl (hlda rfl rfl (lc rfl (lc rfl (lc rfl (ln rfl)))) (hcall rfl rfl rfl (H a (Lmg ha) _ hD) ?_))))))))))
 rintro _ S1 ⟨rfl,hE⟩
 refine hbsl rfl rfl (lc rfl (ln rfl)) (hapC rfl rfl hc (by simp) (by simp;omega) (r:=(l.take (i + 1)).map (fun a=>Decl.enc (g a))) (by rw [← take_map (g:=fun a=>Decl.enc (g a)) ha];(first | (simp [AV.ers,AV.er,Decl.enc];done) | (simp [AV.ers,AV.er,Decl.enc];rfl))) ?_)
 intro v1 hc1 _
 refine qp J (qk (kq5 J) kn (bqn (sqn (ereg (hadd J J (i64w (by omega)) (qp J (qk (kq5 J) kn ?_)))))))
 exact eachDecl_l l g f H (.tip n) (i + 1) (by omega) hs (hD.ext hE) hc1 (fun j n' v' o' S' h1 h2=>hX j n' v' o' S' h1 (hE.trans h2))
termination_by l.length - i
decreasing_by all_goals omega
theorem eachDecl_c (l:List Decl) (g:Decl → Decl) (f:Nat) (H:∀ a ∈ l,∀ s,DQ s → HC p f [.agg [Str a.name,B a.codata,SL 2 (a.xtors.map Xtor.enc)]] s (fun r s'=>r=[.agg [Str (g a).name,B (g a).codata,SL 2 ((g a).xtors.map Xtor.enc)]] ∧ ExtM s s')) (hs:l.length ≤ 2 ^ 30) (s:Sg) (hD:DQ s):HC p N21_ [SL 3 (l.map Decl.enc),.fn f [] []] s (fun r s'=>r=[SL 3 (l.map (fun a=>Decl.enc (g a)))] ∧ ExtM s s'):=by
 refine hcf J f21_ J ?_
 simp only [chainOf]
 refine er (qp J (qn (kq2 J) kn (er (qp J (qn (kq3 J) kn (eseq (er (pq3 J (qn (kq5 J) kn (eblock (eachDecl_l l g f H .full 0 (by omega) hs hD trivial ?_)))))))))))
 intro j n' v' o' S' hc hE
 refine bqx (sqn (er (pq2 J (qn (kq1 J) kn (eret (fqr J ?_))))))
 exact ⟨rfl,hE⟩
theorem eachBranch_l (l:List Br) (g:Br → Br) (f:Nat) (H:∀ a ∈ l,∀ s,DQ s → HC p f [.agg (ints a.vars :: bools a.co :: a.body.cs)] s (fun r s'=>r=[.agg (ints (g a).vars :: bools (g a).co :: (g a).body.cs)] ∧ ExtM s s')) (o:Own) (i:Nat) (hi:i ≤ l.length) (hs:l.length ≤ 2 ^ 30) {n:Nat} {v:Nat → Bool} {D:List (Nat × List AV)} {S:Sg} {Q:Ex → Fr → Prop}
 (hD:DQ S) (hc:Can o v) (hX:∀ j n' v' o' S',Can o' v' → ExtM S S' → Q (.exit 0) ⟨uv (uv (uv (uv (uv (uv e0 11 (B false)) 10 (I j)) 9 (I (l.map Br.enc).length)) 8 (SL 7 (l.map Br.enc))) 5 (.slice o' 7 (l.map (fun a=>Br.enc (g a))))) 1 (.fn f [] []),(fun _=>none),n',v',D,S'⟩):EX (callL p) (.loop F68_l1) ⟨uv (uv (uv (uv (uv e0 10 (I i)) 9 (I (l.map Br.enc).length)) 8 (SL 7 (l.map Br.enc))) 5 (.slice o 7 ((l.take i).map (fun a=>Br.enc (g a))))) 1 (.fn f [] []),(fun _=>none),n,v,D,S⟩ Q:=by
 refine eloop (er (qp J (qb ?_)))
 rintro (_ | _) h1
 ·refine qn (kq6 J) kn (eseq (ecF J (eexit (sqx ?_))))
  have he:i=l.length:=by simp at h1;omega
  subst he
  rw [List.take_length]
  exact hX _ _ _ _ _ hc (ExtM.refl _)
 refine qn (kq6 J) kn (eseq (ecT J (eskip (sqn (eseq (eblock (er ?_)))))))
 have hlt:i < l.length:=by simpa using h1
 obtain ⟨a,ha⟩:=get_of_lt hlt
 have hd:=drop_cons ha
 refine hia (y:=.agg (ints a.vars :: bools a.co :: a.body.cs)) rfl rfl (by omega) (by simp [ha,Br.enc_eq]) rfl (hlda rfl rfl (lc rfl (lc rfl (lc rfl (lc rfl (lc rfl (lc rfl (lc rfl (ln rfl)))))))) (hal (dc (dc (dc (dc (dc (dc (dc (dc dn rfl) rfl) rfl) rfl) rfl) rfl) rfl) rfl) (hstl rfl rfl rfl rfl (Nlb rfl) (lc rfl (lc rfl (lc rfl (lc rfl (lc rfl (lc rfl (lc rfl (ln rfl)))))))) (qk (kc rfl (kc rfl (kc rfl (kc rfl (kc rfl (kc rfl kn)))))) (kc rfl kn) (sqn (ereg (qp rfl (qp rfl (hlda rfl rfl (lc rfl (lc rfl (lc rfl (lc rfl (lc rfl (lc rfl (lc rfl (ln rfl)))))))) (hcall rfl rfl rfl (H a (Lmg ha) _ hD) ?_))))))))))
 rintro _ S1 ⟨rfl,hE⟩
 refine hbsl rfl rfl (lc rfl (ln rfl)) (hapC rfl rfl hc (by simp) (by simp;omega) (r:=(l.take (i + 1)).map (fun a=>Br.enc (g a))) (by rw [← take_map (g:=fun a=>Br.enc (g a)) ha];(first | (simp [AV.ers,AV.er,Br.enc_eq];done) | (simp [AV.ers,AV.er,Br.enc_eq];rfl))) ?_)
 intro v1 hc1 _
 refine qp J (qk (kq5 J) kn (bqn (sqn (ereg (hadd J J (i64w (by omega)) (qp J (qk (kq5 J) kn ?_)))))))
 exact eachBranch_l l g f H (.tip n) (i + 1) (by omega) hs (hD.ext hE) hc1 (fun j n' v' o' S' h1 h2=>hX j n' v' o' S' h1 (hE.trans h2))
termination_by l.length - i
decreasing_by all_goals omega
theorem eachBranch_c (l:List Br) (g:Br → Br) (f:Nat) (H:∀ a ∈ l,∀ s,DQ s → HC p f [.agg (ints a.vars :: bools a.co :: a.body.cs)] s (fun r s'=>r=[.agg (ints (g a).vars :: bools (g a).co :: (g a).body.cs)] ∧ ExtM s s')) (hs:l.length ≤ 2 ^ 30) (s:Sg) (hD:DQ s):HC p N68_ [SL 7 (l.map Br.enc),.fn f [] []] s (fun r s'=>r=[SL 7 (l.map (fun a=>Br.enc (g a)))] ∧ ExtM s s'):=by
 refine hcf J f68_ J ?_
 simp only [chainOf]
 refine er (qp J (qn (kq2 J) kn (er (qp J (qn (kq3 J) kn (eseq (er (pq3 J (qn (kq5 J) kn (eblock (eachBranch_l l g f H .full 0 (by omega) hs hD trivial ?_)))))))))))
 intro j n' v' o' S' hc hE
 refine bqx (sqn (er (pq2 J (qn (kq1 J) kn (eret (fqr J ?_))))))
 exact ⟨rfl,hE⟩
theorem eachCoreFun_l (l:List CFun) (g:CFun → CFun) (f:Nat) (H:∀ a ∈ l,∀ s,DQ s → HC p f [.agg (Str a.name :: encArgs a.params :: ints a.vars :: a.body.cs)] s (fun r s'=>r=[.agg (Str (g a).name :: encArgs (g a).params :: ints (g a).vars :: (g a).body.cs)] ∧ ExtM s s')) (o:Own) (i:Nat) (hi:i ≤ l.length) (hs:l.length ≤ 2 ^ 30) {n:Nat} {v:Nat → Bool} {D:List (Nat × List AV)} {S:Sg} {Q:Ex → Fr → Prop}
 (hD:DQ S) (hc:Can o v) (hX:∀ j n' v' o' S',Can o' v' → ExtM S S' → Q (.exit 0) ⟨uv (uv (uv (uv (uv (uv e0 11 (B false)) 10 (I j)) 9 (I (l.map CFun.enc).length)) 8 (SL 8 (l.map CFun.enc))) 5 (.slice o' 8 (l.map (fun a=>CFun.enc (g a))))) 1 (.fn f [] []),(fun _=>none),n',v',D,S'⟩):EX (callL p) (.loop F27_l1) ⟨uv (uv (uv (uv (uv e0 10 (I i)) 9 (I (l.map CFun.enc).length)) 8 (SL 8 (l.map CFun.enc))) 5 (.slice o 8 ((l.take i).map (fun a=>CFun.enc (g a))))) 1 (.fn f [] []),(fun _=>none),n,v,D,S⟩ Q:=by
 refine eloop (er (qp J (qb ?_)))
 rintro (_ | _) h1
 ·refine qn (kq6 J) kn (eseq (ecF J (eexit (sqx ?_))))
  have he:i=l.length:=by simp at h1;omega
  subst he
  rw [List.take_length]
  exact hX _ _ _ _ _ hc (ExtM.refl _)
 refine qn (kq6 J) kn (eseq (ecT J (eskip (sqn (eseq (eblock (er ?_)))))))
 have hlt:i < l.length:=by simpa using h1
 obtain ⟨a,ha⟩:=get_of_lt hlt
 have hd:=drop_cons ha
 refine hia (y:=.agg (Str a.name :: encArgs a.params :: ints a.vars :: a.body.cs)) rfl rfl (by omega) (by simp [ha,CFun.enc_eq]) rfl (hlda rfl rfl (lc rfl (lc rfl (lc rfl (lc rfl (lc rfl (lc rfl (lc rfl (lc rfl (ln rfl))))))))) (hal (dc (dc (dc (dc (dc (dc (dc (dc dn rfl) rfl) rfl) rfl) rfl) rfl) rfl) rfl) (hstl rfl rfl rfl rfl (Nlb rfl) (lc rfl (lc rfl (lc rfl (lc rfl (lc rfl (lc rfl (lc rfl (lc rfl (ln rfl))))))))) (qk (kc rfl (kc rfl (kc rfl (kc rfl (kc rfl (kc rfl kn)))))) (kc rfl kn) (sqn (ereg (qp rfl (qp rfl (hlda rfl rfl (lc rfl (lc rfl (lc rfl (lc rfl (lc rfl (lc rfl (lc rfl (lc rfl (ln rfl))))))))) (hcall rfl rfl rfl (H a (Lmg ha) _ hD) ?_))))))))))
 rintro _ S1 ⟨rfl,hE⟩
 refine hbsl rfl rfl (lc rfl (ln rfl)) (hapC rfl rfl hc (by simp) (by simp;omega) (r:=(l.take (i + 1)).map (fun a=>CFun.enc (g a))) (by rw [← take_map (g:=fun a=>CFun.enc (g a)) ha];(first | (simp [AV.ers,AV.er,CFun.enc_eq];done) | (simp [AV.ers,AV.er,CFun.enc_eq];rfl))) ?_)
 intro v1 hc1 _
 refine qp J (qk (kq5 J) kn (bqn (sqn (ereg (hadd J J (i64w (by omega)) (qp J (qk (kq5 J) kn ?_)))))))
 exact eachCoreFun_l l g f H (.tip n) (i + 1) (by omega) hs (hD.ext hE) hc1 (fun j n' v' o' S' h1 h2=>hX j n' v' o' S' h1 (hE.trans h2))
termination_by l.length - i
decreasing_by all_goals omega
theorem eachCoreFun_c (l:List CFun) (g:CFun → CFun) (f:Nat) (H:∀ a ∈ l,∀ s,DQ s → HC p f [.agg (Str a.name :: encArgs a.params :: ints a.vars :: a.body.cs)] s (fun r s'=>r=[.agg (Str (g a).name :: encArgs (g a).params :: ints (g a).vars :: (g a).body.cs)] ∧ ExtM s s')) (hs:l.length ≤ 2 ^ 30) (s:Sg) (hD:DQ s):HC p N27_ [SL 8 (l.map CFun.enc),.fn f [] []] s (fun r s'=>r=[SL 8 (l.map (fun a=>CFun.enc (g a)))] ∧ ExtM s s'):=by
 refine hcf J f27_ J ?_
 simp only [chainOf]
 refine er (qp J (qn (kq2 J) kn (er (qp J (qn (kq3 J) kn (eseq (er (pq3 J (qn (kq5 J) kn (eblock (eachCoreFun_l l g f H .full 0 (by omega) hs hD trivial ?_)))))))))))
 intro j n' v' o' S' hc hE
 refine bqx (sqn (er (pq2 J (qn (kq1 J) kn (eret (fqr J ?_))))))
 exact ⟨rfl,hE⟩
theorem eachbool_l (l:List Bool) (g:Bool → Bool) (f:Nat) (H:∀ a ∈ l,∀ s,DQ s → HC p f [B a] s (fun r s'=>r=[B (g a)] ∧ ExtM s s')) (o:Own) (i:Nat) (hi:i ≤ l.length) (hs:l.length ≤ 2 ^ 30) {n:Nat} {v:Nat → Bool} {D:List (Nat × List AV)} {S:Sg} {Q:Ex → Fr → Prop}
 (hD:DQ S) (hc:Can o v) (hX:∀ j n' v' o' S',Can o' v' → ExtM S S' → Q (.exit 0) ⟨uv (uv (uv (uv (uv (uv e0 11 (B false)) 10 (I j)) 9 (I (l.map B).length)) 8 (SL 1 (l.map B))) 5 (.slice o' 1 (l.map (fun a=>B (g a))))) 1 (.fn f [] []),(fun _=>none),n',v',D,S'⟩):EX (callL p) (.loop F70_l1) ⟨uv (uv (uv (uv (uv e0 10 (I i)) 9 (I (l.map B).length)) 8 (SL 1 (l.map B))) 5 (.slice o 1 ((l.take i).map (fun a=>B (g a))))) 1 (.fn f [] []),(fun _=>none),n,v,D,S⟩ Q:=by
 refine eloop (er (qp J (qb ?_)))
 rintro (_ | _) h1
 ·refine qn (kq6 J) kn (eseq (ecF J (eexit (sqx ?_))))
  have he:i=l.length:=by simp at h1;omega
  subst he
  rw [List.take_length]
  exact hX _ _ _ _ _ hc (ExtM.refl _)
 refine qn (kq6 J) kn (eseq (ecT J (eskip (sqn (eseq (eblock (er ?_)))))))
 have hlt:i < l.length:=by simpa using h1
 obtain ⟨a,ha⟩:=get_of_lt hlt
 have hd:=drop_cons ha
 refine hia (y:=B a) rfl rfl (by omega) (by simp [ha]) rfl (qp rfl (qp rfl (qk (kc rfl (kc rfl (kc rfl (kc rfl (kc rfl (kc rfl kn)))))) kn (sqn (ereg (qp rfl (qp rfl (qp rfl (hcall rfl rfl rfl (H a (Lmg ha) _ hD) ?_)))))))))
 rintro _ S1 ⟨rfl,hE⟩
 refine hbsl rfl rfl (lc rfl (ln rfl)) (hapC rfl rfl hc (by simp) (by simp;omega) (r:=(l.take (i + 1)).map (fun a=>B (g a))) (by rw [← take_map (g:=fun a=>B (g a)) ha];(first | (simp [AV.ers,AV.er];done) | (simp [AV.ers,AV.er];rfl))) ?_)
 intro v1 hc1 _
 refine qp J (qk (kq5 J) kn (bqn (sqn (ereg (hadd J J (i64w (by omega)) (qp J (qk (kq5 J) kn ?_)))))))
 exact eachbool_l l g f H (.tip n) (i + 1) (by omega) hs (hD.ext hE) hc1 (fun j n' v' o' S' h1 h2=>hX j n' v' o' S' h1 (hE.trans h2))
termination_by l.length - i
decreasing_by all_goals omega
theorem eachbool_c (l:List Bool) (g:Bool → Bool) (f:Nat) (H:∀ a ∈ l,∀ s,DQ s → HC p f [B a] s (fun r s'=>r=[B (g a)] ∧ ExtM s s')) (hs:l.length ≤ 2 ^ 30) (s:Sg) (hD:DQ s):HC p N70_ [SL 1 (l.map B),.fn f [] []] s (fun r s'=>r=[SL 1 (l.map (fun a=>B (g a)))] ∧ ExtM s s'):=by
 refine hcf J f70_ J ?_
 simp only [chainOf]
 refine er (qp J (qn (kq2 J) kn (er (qp J (qn (kq3 J) kn (eseq (er (pq3 J (qn (kq5 J) kn (eblock (eachbool_l l g f H .full 0 (by omega) hs hD trivial ?_)))))))))))
 intro j n' v' o' S' hc hE
 refine bqx (sqn (er (pq2 J (qn (kq1 J) kn (eret (fqr J ?_))))))
 exact ⟨rfl,hE⟩
end Go.Sim.Kd
namespace Go.Sim.Kd
open Go Go.Sim
section
variable {c:Caller} {l:List AIns} {E:Nat → Option TV} {L:Nat → Option (List AV)} {n:Nat} {v:Nat → Bool} {D:List (Nat × List AV)} {S:Sg} {Q:Fr → Prop}
theorem hldc {d off:Nat} {a:AO} {cs:List AV} {y:AV} (h1:ev E a=some (.val (.cptr cs off))) (h2:cs[off]?=some y)
 (k:HL c l ⟨upd E d (some (.val y)),L,n,v,D,S⟩ Q):HL c (⟨some d,none,.ld false none a⟩ :: l) ⟨E,L,n,v,D,S⟩ Q :=
 hop (by simp only [ins,run1,aop,h1,Obs,ldAt,rd,h2];rfl) k
end
theorem hcallq {p:Pg} {E:Nat → Option TV} {L:Nat → Option (List AV)} {n:Nat} {v:Nat → Bool} {D:List (Nat × List AV)} {S:Sg} {l:List AIns} {Q:Fr → Prop} {d:Nat} {f:AO} {as:List AO} {g:Nat} {a b q q':List AV} {R:List AV → Sg → Prop}
 (h1:evV E f=some (.fn g a b)) (h2:evVs E as=some q) (h3:AV.ers (a ++ q ++ b)=q') (h4:HC p g q' S R) (hq:∀ res S',R res S' → S'.Q=S.Q) (k:∀ res S',R res S' → HL (callL p) l ⟨upd E d (some (toTV res)),L,n,v,D,S'⟩ Q) :
 HL (callL p) (⟨some d,none,.callq [] f as⟩ :: l) ⟨E,L,n,v,D,S⟩ Q:=by
 subst h3
 obtain ⟨res,S',h5,h6⟩:=h4
 refine hop ?_ (k res S' h6)
 simp only [ins,run1,aop,h1,h2,Obs,callOf,h5,qres]
 rw [if_pos (show keeps E S S' [] from hq res S' h6)]
 rfl
theorem cs_len (a:Node):a.cs.length=5:=rfl
def fcs (ns:List Node):List AV:=ns.flatMap Node.cs
theorem fcs_len (ns:List Node):(fcs ns).length=ns.length * 5:=by
 unfold fcs
 induction ns with
 | nil=>rfl
 | cons a l ih=>simp only [List.flatMap_cons,List.length_append,ih,cs_len,List.length_cons];omega
theorem fcs_add (ns:List Node) (x:Node):fcs (ns ++ [x])=fcs ns ++ x.cs:=by simp [fcs]
def AccN (b:Nat) (out:AV) (ns:List Node) (S:Sg):Prop:=(ns=[] ∧ out=.slice .full 5 []) ∨ (∃ g,out=.ms g 0 ns.length 5 ∧ S.mu g=some (fcs ns) ∧ b ≤ g ∧ g < S.mn)
def AccR (b:Nat) (out:AV) (ns:List Node) (S:Sg):Prop:=(ns=[] ∧ out=SL 5 []) ∨ (∃ g,out=.ms g 0 ns.length 5 ∧ S.mu g=some (fcs ns) ∧ b ≤ g ∧ g < S.mn)
theorem AccN.mono {b:Nat} {out:AV} {ns:List Node} {S S':Sg} (h:AccN b out ns S) (e:ExtM S S'):AccN b out ns S':=by
 rcases h with h | ⟨g,h1,h2,h3,h4⟩
 ·exact .inl h
 exact .inr ⟨g,h1,(e.mu g h4).trans h2,h3,Nat.lt_of_lt_of_le h4 e.mn⟩
theorem AccR.mono {b:Nat} {out:AV} {ns:List Node} {S S':Sg} (h:AccR b out ns S) (e:ExtM S S'):AccR b out ns S':=by
 rcases h with h | ⟨g,h1,h2,h3,h4⟩
 ·exact .inl h
 exact .inr ⟨g,h1,(e.mu g h4).trans h2,h3,Nat.lt_of_lt_of_le h4 e.mn⟩
theorem AccN.res {b:Nat} {out:AV} {ns:List Node} {S:Sg} (h:AccN b out ns S):AccR b out.er ns S:=by
 rcases h with ⟨h1,rfl⟩ | ⟨g,rfl,h2⟩
 ·exact .inl ⟨h1,rfl⟩
 exact .inr ⟨g,rfl,h2⟩
theorem appm_acc {S0 S:Sg} {out:AV} {ns:List Node} {x:Node} (hA:AccN S0.mn out ns S) (hE:ExtM S0 S) (hlen:ns.length ≤ 2 ^ 30) :
 ∃ out' S',wopOf (.appm 5 72) S [out,.slice .full 5 [.agg x.cs]]=some (out',S') ∧ AccN S0.mn out' (ns ++ [x]) S' ∧ ExtM S0 S':=by
 have hsrc:srcOf 5 S (.slice .full 5 [.agg x.cs])=some (1,x.cs):=by
  simp only [srcOf,if_true,List.length_cons,List.length_nil,flat,List.flatMap_cons,List.flatMap_nil,AV.cells,List.append_nil]
 rcases hA with ⟨rfl,rfl⟩ | ⟨g,rfl,h2,h3,h4⟩
 ·refine ⟨.ms S.mn 0 1 5,{ S with mu:=upd S.mu S.mn (some x.cs),mn:=S.mn + 1 },?_,.inr ⟨S.mn,rfl,?_,hE.mn,Nat.lt_succ_self _⟩,⟨⟨hE.e.nx,hE.e.ob,hE.e.gn,hE.e.gl,hE.e.Q⟩,fun g hg=>?_,Nat.le_succ_of_le hE.mn⟩⟩
  ·simp only [wopOf,appmOf,if_true,hsrc,Obs]
   rfl
  ·show upd S.mu S.mn _ S.mn=_
   rw [upd_same]
   simp [fcs]
  show upd S.mu S.mn _ g=_
  rw [upd_ne _ _ (by have:=hE.mn;omega)]
  exact hE.mu g hg
 refine ⟨.ms S.mn 0 (ns.length + 1) 5,{ S with mu:=upd (upd S.mu g none) S.mn (some (fcs ns ++ x.cs)),mn:=S.mn + 1 },?_,.inr ⟨S.mn,by simp,?_,hE.mn,Nat.lt_succ_self _⟩,⟨⟨hE.e.nx,hE.e.ob,hE.e.gn,hE.e.gl,hE.e.Q⟩,fun g' hg=>?_,Nat.le_succ_of_le hE.mn⟩⟩
 ·simp only [wopOf,appmOf]
  rw [if_pos (by simp),hsrc]
  simp only [Obs,h2]
  rw [if_pos ⟨fcs_len ns,by omega⟩,if_neg (by decide)]
 ·show upd (upd S.mu g none) S.mn _ S.mn=_
  rw [upd_same,fcs_add]
 show upd (upd S.mu g none) S.mn _ g'=_
 rw [upd_ne _ _ (by have:=hE.mn;omega),upd_ne _ _ (by omega)]
 exact hE.mu g' hg
theorem unfl_fcs:∀ (ns:List Node),unfl 5 ns.length (fcs ns)=ns.map Node.enc
 | []=>rfl
 | x :: ns=>by
   have e:fcs (x :: ns)=x.cs ++ fcs ns:=rfl
   show AV.agg ((fcs (x :: ns)).take 5) :: unfl 5 ns.length ((fcs (x :: ns)).drop 5)=_
   rw [e]
   rw [show ((x.cs ++ fcs ns).drop 5)=fcs ns from by rw [List.drop_left' (cs_len x)],unfl_fcs ns]
   rw [List.map_cons,x.enc_eq]
   congr 1
theorem eretz_loc {c:Caller} {E:Nat → Option TV} {L:Nat → Option (List AV)} {n:Nat} {v:Nat → Bool} {D:List (Nat × List AV)} {S S':Sg} {Q:Ex → Fr → Prop} {k d:Nat} {cs ds:List AV} (h1:L d=some cs) (h2:frzDL (frzD k) S cs=some (ds,S'))
 (h:Q .ret ⟨E,upd L d (some ds),n,v,D,S'⟩):EX c (.retz k d) ⟨E,L,n,v,D,S⟩ Q:=eretz (by simp only [retzF,h1,h2];rfl) h
theorem eretz_env {c:Caller} {E:Nat → Option TV} {L:Nat → Option (List AV)} {n:Nat} {v:Nat → Bool} {D:List (Nat × List AV)} {S S':Sg} {Q:Ex → Fr → Prop} {k d:Nat} {x y:AV} (h0:L d=none) (h1:E d=some (.val x)) (h2:frzD k S x=some (y,S'))
 (h:Q .ret ⟨upd E d (some (.val y)),L,n,v,D,S'⟩):EX c (.retz k d) ⟨E,L,n,v,D,S⟩ Q:=eretz (by simp only [retzF,h0,h1,h2];rfl) h
theorem ereg_1 {c:Caller} {l:List AIns} {a:Nat} {k kl:List Nat} {E E1:Nat → Option TV} {L:Nat → Option (List AV)} {n:Nat} {v:Nat → Bool} {D:List (Nat × List AV)} {S:Sg} {Q:Ex → Fr → Prop}
 (h1:dropL a E=E1) (h:HL c l ⟨E1,upd L a none,n,v,D,S⟩ (KQ k kl Q)):EX c (.reg l [a] k kl) ⟨E,L,n,v,D,S⟩ Q:=by
 refine eregf ?_
 rw [← h1] at h
 exact h
theorem frzDL0 (S:Sg):∀ cs:List AV,frzDL (frzD 0) S cs=some (cs,S)
 | []=>rfl
 | c :: cs=>by
   have h:=frzDL0 S cs
   have e:frzD 0 S c=some (c,S):=by simp only [frzD]
   simp only [frzDL,e,Obs,h]
theorem nts_app (l m:List AV):AV.nts (l ++ m)=(AV.nts l && AV.nts m):=by induction l with
 | nil=>rfl
 | cons a l ih=>simp only [List.cons_append,AV.nts,ih,Bool.and_assoc]
theorem fcs_nts (ns:List Node):AV.nts (fcs ns)=true:=by
 unfold fcs
 induction ns with
 | nil=>rfl
 | cons a l ih=>rw [List.flatMap_cons,nts_app,ih];rfl
theorem frz_ms {S:Sg} {g n sz k:Nat} {cs:List AV} (hs:0 < sz) (hg:S.mu g=some cs) (hc:frzDL (frzD k) S cs=some (cs,S)) (hn:AV.nts cs=true) (hl:cs.length=n * sz) :
 frzD (k + 1) S (.ms g 0 n sz)=some (.slice .none sz (unfl sz n cs),{ S with mu:=upd (upd S.mu g (some cs)) g none }):=by
 simp only [frzD,hg,hc,Obs]
 rw [if_pos ⟨trivial,hn⟩]
 simp only [frzOf]
 rw [if_pos ⟨trivial,hs⟩,upd_same]
 simp only [Obs]
 rw [if_pos (by omega),List.drop_zero,← hl,List.take_length]
theorem mu_back {S:Sg} {g:Nat} {x:Option (List AV)} {S0:Sg} {y:Option (List AV)} (hE:ExtM S0 S) (hg:S0.mn ≤ g):ExtM S0 { S with mu:=upd (upd S.mu g y) g x } :=
 ⟨⟨hE.e.nx,hE.e.ob,hE.e.gn,hE.e.gl,hE.e.Q⟩,fun i hi=>by
  show upd (upd S.mu g y) g x i=_
  rw [upd_ne _ _ (by omega),upd_ne _ _ (by omega)]
  exact hE.mu i hi,hE.mn⟩
theorem frz_acc {S0 S:Sg} {out:AV} {ns:List Node} (hA:AccR S0.mn out ns S) (hE:ExtM S0 S):∃ S',frzD 1 S out=some (SL 5 (ns.map Node.enc),S') ∧ ExtM S0 S':=by
 rcases hA with ⟨rfl,rfl⟩ | ⟨g,rfl,h2,h3,h4⟩
 ·exact ⟨S,rfl,hE⟩
 refine ⟨_,?_,mu_back (y:=some (fcs ns)) (x:=none) hE h3⟩
 rw [frz_ms (by decide) h2 (frzDL0 S _) (fcs_nts ns) (fcs_len ns),unfl_fcs]
theorem frz_node {S0 S:Sg} {op nn ty:Int} {out:AV} {ns:List Node} {bs:List AV} (hA:AccR S0.mn out ns S) (hE:ExtM S0 S) :
 ∃ S',frzDL (frzD 1) S [I op,I nn,I ty,out,SL 7 bs]=some ([I op,I nn,I ty,SL 5 (ns.map Node.enc),SL 7 bs],S') ∧ ExtM S0 S':=by
 obtain ⟨S',h1,h2⟩:=frz_acc hA hE
 have e:∀ (S:Sg) (x:Int),frzD 1 S (I x)=some (I x,S):=fun S x=>by simp only [frzD]
 have e2:frzD 1 S' (SL 7 bs)=some (SL 7 bs,S'):=by simp only [frzD]
 refine ⟨S',?_,h2⟩
 simp only [frzDL,e,h1,e2,Obs]
theorem gad_c {S:Sg} (h:DQ S) {op:Int} (h0:0 ≤ op) (h1:op ≤ 14):wopOf (.gad 0 1 (dualsL.map I)) S [I op]=some (.cptr (dualsL.map I) op.toNat,S):=by
 have hk:∀ j c,(dualsL.map I)[j]?=some c → S.Q 0 j=some c:=by
  intro j c hj
  rw [Lgm] at hj
  obtain ⟨x,hx,rfl⟩:=Option.map_eq_some_iff.1 hj
  have h2:=List.all_eq_true.1 h (x,j) (List.mk_mem_zipIdx_iff_getElem?.2 hx)
  simp only [isI] at h2
  split at h2
  ·rename_i m e
   rw [e,Odt h2]
  cases h2
 simp only [wopOf,asN,Obs,gadOf]
 rw [if_pos ⟨h0,by simp [dualsL];omega,hk⟩]
 simp
theorem dual_at {op:Int} (h0:0 ≤ op) (h1:op ≤ 14):(dualsL.map I)[op.toNat]?=some (I (dualOp op)):=by
 have h:op.toNat < dualsL.length:=by simp [dualsL];omega
 rw [Lgm,dualOp,List.getElem?_eq_getElem h]
 rfl
theorem len9 {ds:List Decl} {fs:List CFun} {a:Node} {X A:Int → Bool} (h:vN ds fs a X A=true) (e:a.op=9):a.args.length=2:=by
 obtain ⟨_,_,want,xs,hh,hl⟩:=vN_parts h
 rw [e] at hh
 simp [headOf] at hh
 rw [hl,← hh.2.1];rfl
def NodeC (a:Node):Prop:=∀ s,DQ s → HC p N30_ [.agg a.cs] s (fun r s'=>r=[.agg (dualN a).cs] ∧ ExtM s s')
theorem eachNode_l (l:List Node) (S0:Sg) (H:∀ a ∈ l,NodeC a) (out:AV) (i:Nat) (hi:i ≤ l.length) (hs:l.length ≤ 2 ^ 30) {n:Nat} {v:Nat → Bool} {D:List (Nat × List AV)} {S:Sg} {Q:Ex → Fr → Prop}
 (hD0:DQ S0) (hD:DQ S) (hE0:ExtM S0 S) (hA:AccN S0.mn out ((l.take i).map dualN) S) (hX:∀ j out' S',AccN S0.mn out' (l.map dualN) S' → ExtM S0 S' → Q (.exit 0) ⟨uv (uv (uv (uv (uv (uv e0 11 (B false)) 10 (I j)) 9 (I (l.map Node.enc).length)) 8 (SL 5 (l.map Node.enc))) 5 (out')) 1 (.fn N30_ [] []),(fun _=>none),n,v,D,S'⟩):EX (callL p) (.loop F66_l1) ⟨uv (uv (uv (uv (uv e0 10 (I i)) 9 (I (l.map Node.enc).length)) 8 (SL 5 (l.map Node.enc))) 5 (out)) 1 (.fn N30_ [] []),(fun _=>none),n,v,D,S⟩ Q:=by
 refine eloop (er (qp J (qb ?_)))
 rintro (_ | _) h1
 ·refine qn (kq6 J) kn (eseq (ecF J (eexit (sqx ?_))))
  have he:i=l.length:=by simp at h1;omega
  subst he
  rw [List.take_length] at hA
  exact hX _ _ _ hA hE0
 refine qn (kq6 J) kn (eseq (ecT J (eskip (sqn (eseq (eblock (er ?_)))))))
 have hlt:i < l.length:=by simpa using h1
 obtain ⟨a,ha⟩:=get_of_lt hlt
 have hd:=drop_cons ha
 refine hia (y:=.agg a.cs) rfl rfl (by omega) (by simp [ha,Node.enc_eq]) rfl (hlda rfl rfl (lc rfl (lc rfl (lc rfl (lc rfl (lc rfl (ln rfl)))))) (hal (dc (dc (dc (dc (dc (dc (dc (dc dn rfl) rfl) rfl) rfl) rfl) rfl) rfl) rfl) (hstl rfl rfl rfl rfl (Nlb rfl) (lc rfl (lc rfl (lc rfl (lc rfl (lc rfl (ln rfl)))))) (qk (kc rfl (kc rfl (kc rfl (kc rfl (kc rfl (kc rfl kn)))))) (kc rfl kn) (sqn (ereg (qp rfl (qp rfl (hlda rfl rfl (lc rfl (lc rfl (lc rfl (lc rfl (lc rfl (ln rfl)))))) (hcall rfl rfl rfl (H a (Lmg ha) _ hD) ?_))))))))))
 rintro _ S1 ⟨rfl,hE⟩
 refine hbsl J J (lq1 J) ?_
 obtain ⟨out2,S2,w1,w2,w3⟩:=appm_acc (x:=dualN a) (hA.mono hE) (hE0.trans hE) (by simp;omega)
 refine hwop J w1 (qp J (qk (kq5 J) kn (bqn (sqn (ereg (hadd J J (i64w (by omega)) (qp J (qk (kq5 J) kn ?_))))))))
 exact eachNode_l l S0 H _ (i + 1) (by omega) hs hD0 (DQ.ext hD0 w3) w3 (by rw [← take_map (g:=dualN) ha];exact w2) hX
termination_by l.length - i
decreasing_by all_goals omega
theorem eachNode_c (l:List Node) (H:∀ a ∈ l,NodeC a) (hs:l.length ≤ 2 ^ 30) (s:Sg) (hD:DQ s):HC p N66_ [SL 5 (l.map Node.enc),.fn N30_ [] []] s (fun r s'=>∃ out,r=[out] ∧ AccR s.mn out (l.map dualN) s' ∧ ExtM s s'):=by
 refine hcf J f66_ J ?_
 simp only [chainOf]
 refine er (qp J (qn (kq2 J) kn (er (qp J (qn (kq3 J) kn (eseq (er (pq3 J (qn (kq5 J) kn (eblock (eachNode_l l _ H _ 0 (by omega) hs hD hD (ExtM.refl _) (.inl ⟨J,J⟩) ?_)))))))))))
 intro j out' S' hA hE
 refine bqx (sqn (er (pq2 J (qn (kq1 J) kn (eret (fqr J ?_))))))
 exact ⟨_,rfl,hA.res,hE⟩
end Go.Sim.Kd
namespace Go.Sim.Kd
open Go Go.Sim
theorem Reverse2_c (s:Sg) (g:Nat) (x y:Node) (hg:s.mu g=some (x.cs ++ y.cs)):HC p N67_ [.ms g 0 2 5] s (fun r s'=>r=[] ∧ s'={ s with mu:=upd (upd s.mu g (some (y.cs ++ y.cs))) g (some (y.cs ++ x.cs)) }):=by
 refine hcf J f67_ J ?_
 simp only [chainOf]
 refine er (pq2 J (hsub J J (i64w (by omega)) (pq2 J (qn (kq3 J) kn (eblock (eloop (eseq (er (pq3 J (qb ?_))))))))))
 rintro (_ | _) h1
 ·exact absurd h1 (by decide)
 refine qk (kc rfl (kc rfl (kc rfl (kc rfl kn)))) kn (sqn (ecT rfl (eskip (sqn (eseq (eblock (ereg (qp rfl (qp rfl (qp rfl (qp rfl (qp rfl (qp rfl (hiam rfl rfl (by decide) (by decide) (hldm rfl hg (y:=.agg y.cs) rfl (qp rfl (qp rfl (hiam rfl rfl (by decide) (by decide) (hldm rfl hg (y:=.agg x.cs) rfl (hiam rfl rfl (by decide) (by decide) (hstm rfl rfl hg rfl (Nlb rfl) (by simp) (cs':=y.cs ++ y.cs) rfl (hiam rfl rfl (by decide) (by decide) (hstm rfl rfl (upd_same _ _ _) rfl (Nlb rfl) (by simp) (cs':=y.cs ++ x.cs) rfl ?_)))))))))))))))))))))))
 refine qk (kq3 J) kn (bqn (sqn (ereg (qp J (hadd J J (i64w (by omega)) (qp J (hsub J J (i64w (by omega)) (pq2 J (qn (kq3 J) kn (eloop (eseq (er (pq3 J (qb ?_))))))))))))))
 rintro (_ | _) h2
 ·refine qn (kq4 J) kn (ecF J (eexit (sqx (sqx (bqx (fqn J ?_))))))
  exact ⟨rfl,rfl⟩
 exact absurd h2 (by decide)
end Go.Sim.Kd
namespace Go.Sim.Kd
open Go Go.Sim
theorem clone_c (s:Sg) (l:List Int) (h:l.length ≤ 2 ^ 40):HC p N29_ [ints l] s (fun r s'=>(∃ o,r=[.slice o 1 (l.map I)]) ∧ s'=s):=by
 have e:p.ov N29_=some (cloneOv 1 8):=rfl
 cases l with
 | nil =>
   refine ⟨_,s,?_,⟨.full,J⟩,J⟩
   rw [callL_eq,e]
   rfl
 | cons x l =>
   refine ⟨_,s,?_,⟨.none,J⟩,J⟩
   rw [callL_eq,e]
   simp only [List.map_cons,cloneOv]
   exact if_pos ⟨rfl,by simp at h ⊢;omega⟩
theorem AccR.cells {b:Nat} {out:AV} {ns:List Node} {S:Sg} (h:AccR b out ns S):out.cells=[out] ∧ out.erT=out ∧ (∀ t sz xs,out ≠ .slice (.tip t) sz xs) ∧ out.er=out:=by
 rcases h with ⟨_,rfl⟩ | ⟨g,rfl,_⟩
 ·exact ⟨rfl,rfl,(fun _ _ _ h=>nomatch h),rfl⟩
 exact ⟨rfl,rfl,(fun _ _ _ h=>nomatch h),rfl⟩
theorem AccR.two {b:Nat} {out:AV} {ns:List Node} {S:Sg} (h:AccR b out ns S) (hl:ns.length=2):∃ g x y,ns=[x,y] ∧ out=.ms g 0 2 5 ∧ S.mu g=some (x.cs ++ y.cs) ∧ b ≤ g ∧ g < S.mn:=by
 match ns,hl with
 | [x,y],_ =>
   rcases h with ⟨h,_⟩ | ⟨g,rfl,h1,h2⟩
   ·cases h
   exact ⟨g,x,y,rfl,rfl,by rw [h1];simp [fcs],h2⟩
theorem AccR.new {b:Nat} {out:AV} {ns:List Node} {S:Sg} {o:AObj} (h:AccR b out ns S):AccR b out ns (S.new o):=h
theorem AccR.set {b i:Nat} {out:AV} {ns:List Node} {S:Sg} {o:AObj} (h:AccR b out ns S):AccR b out ns (S.set i o):=h
theorem ExtM.set {s s':Sg} {i:Nat} {o:AObj} (h:ExtM s s') (hi:s.nx ≤ i):ExtM s (s'.set i o):=⟨h.e.set hi,h.mu,h.mn⟩
theorem ExtM.mus {s s':Sg} {g:Nat} {x:Option (List AV)} (h:ExtM s s') (hg:s.mn ≤ g):ExtM s { s' with mu:=upd s'.mu g x } :=
 ⟨⟨h.e.nx,h.e.ob,h.e.gn,h.e.gl,h.e.Q⟩,fun i hi=>(upd_ne _ _ (by omega)).trans (h.mu i hi),h.mn⟩
def BrC (b:Br):Prop:=∀ s,DQ s → HC p N69_ [.agg (ints b.vars :: bools b.co :: b.body.cs)] s (fun r s'=>r=[.agg (ints (dualB b).vars :: bools (dualB b).co :: (dualB b).body.cs)] ∧ ExtM s s')
theorem dualN_op (a:Node):(dualN a).op=dualOp a.op:=by rw [dualN_eq];rfl
def dArgs (a:Node):List Node:=if a.op=9 then (a.args.map dualN).reverse else a.args.map dualN
theorem dualN_cs (a:Node):(dualN a).cs=[I (dualOp a.op),I a.n,I a.ty,SL 5 ((dArgs a).map Node.enc),SL 7 ((a.brs.map dualB).map Br.enc)]:=by
 rw [dualN_eq]
 rfl
theorem not_c (a:Bool) (s:Sg) (hD:DQ s):HC p N71_ [B a] s (fun r s'=>r=[B (!a)] ∧ ExtM s s'):=by
 refine hcf J f71_ J ?_
 simp only [chainOf]
 refine er (qp J (qn (kq1 J) kn (er (pq3 J (qn (kq1 J) kn (eret (fqr J ?_)))))))
 exact ⟨rfl,ExtM.refl _⟩
theorem dbranch_c (b:Br) (hv:b.vars.length ≤ 2 ^ 30) (hc:b.co.length ≤ 2 ^ 30) (H:NodeC b.body) (s:Sg) (hD:DQ s):HC p N69_ [.agg (ints b.vars :: bools b.co :: b.body.cs)] s (fun r s'=>r=[.agg (ints (dualB b).vars :: bools (dualB b).co :: (dualB b).body.cs)] ∧ ExtM s s'):=by
 refine hcf J f69_ J ?_
 simp only [chainOf]
 refine er (hbox (dc dn J) J (lq7 J) (hal (dq2 J) (qn (kq2 J) (kq2 J) (er (pq2 J (hcall J J J (clone_c _ b.vars (by omega)) ?_))))))
 rintro _ S0 ⟨⟨o,rfl⟩,hS0⟩
 obtain rfl:=hS0.symm
 refine pq2 J (hcall J J J (eachbool_c b.co not N71_ (fun a _ s hs=>not_c a s hs) (by omega) _ hD) ?_)
 rintro _ S1 ⟨rfl,hE1⟩
 refine qp J (hlda J J (lq5 J) (hcall J J J (H _ (hD.ext hE1)) ?_))
 rintro _ S2 ⟨rfl,hE2⟩
 refine hbuild J J (lq7 J) (hstl J J J J (Nlb J) (lq7 J) (qn (kq1 J) (kq1 J) (eret (fqr J ?_))))
 rw [dualB_eq]
 refine ⟨?_,hE1.trans hE2⟩
 simp only [Br.vars,Br.co,bools]
 rw [List.map_map]
 rfl
theorem fill_out {out:AV} {a b c:Int} (h:out.cells=[out]):fillA [.lit (.int .i64 0),.lit (.int .i64 0),.lit (.int .i64 0),.slice .full 5 [],.slice .full 7 []] [(0,1,I a),(1,1,I b),(2,1,I c),(3,1,out)]=some [I a,I b,I c,out,.slice .full 7 []]:=by
 have hI:∀ x,(I x).cells=[I x]:=fun _=>rfl
 simp [fillA,h,hI]
theorem node_c0 (a:Node) (ho0:0 ≤ a.op) (ho1:a.op ≤ 14) (h9:a.op=9 → a.args.length=2) (ha:a.args.length ≤ 2 ^ 30) (hb:a.brs.length ≤ 2 ^ 30) (H1:∀ b ∈ a.args,NodeC b) (H2:∀ b ∈ a.brs,BrC b) (s:Sg) (hD:DQ s):HC p N30_ [.agg a.cs] s (fun r s'=>r=[.agg (dualN a).cs] ∧ ExtM s s'):=by
 refine hcf J f30_ J ?_
 simp only [chainOf]
 refine er (hbox (dc dn rfl) rfl (lq5 rfl) (hal (dq2 rfl) (qn (kq2 rfl) (kq2 rfl) (eseq (ereg_1 (dq2 rfl) (pq2 rfl (hwop rfl (gad_c hD ho0 ho1) (hldc rfl (dual_at ho0 ho1) (pq6 rfl (hcallq rfl rfl rfl (eachNode_c a.args H1 ha _ hD) (by rintro _ _ ⟨_,_,_,hE⟩;exact hE.e.Q) ?_))))))))))
 rintro _ S1 ⟨out,rfl,hA,hE1⟩
 obtain ⟨hc1,hc2,hc3,hc4⟩:=hA.cells
 refine hbuild J (fill_out hc1) J (hal (dq14 J) (hstl J J J J (Nlb J) (lq5 J) (qn (kq3 J) (kq3 J) (eseq (er (pq3 J (qb ?_)))))))
 rintro (_ | _) h1
 have hA5:AccR s.mn out (dArgs a) S1:=by
  rw [dArgs,if_neg (by simpa using h1)]
  exact hA
 have hE5:=hE1
 refine qk (kc rfl (kc rfl (kc rfl (kc rfl kn)))) (kc rfl (kc rfl (kc rfl kn))) (sqn (ecF rfl (eskip (sqn (eseq (ereg (qp rfl (qp rfl (hcall rfl rfl rfl (eachBranch_c a.brs dualB N69_ (fun b hb s hs=>by have:=H2 b hb s hs;exact this) hb _ (hD.ext hE5)) ?_)))))))))
 rotate_left
 refine qn (kq4 J) (kq3 J) (ecT J (ereg (qp J ?_)))
 obtain ⟨g,x,y,hns,rfl,hg,hb1,hb2⟩:=hA.two (by simpa using h9 (by simpa using h1))
 refine qp J (hcall J J J (Reverse2_c _ g x y hg) ?_)
 rintro _ S2 ⟨rfl,hS2⟩
 have hA5:AccR s.mn (.ms g 0 2 5) (dArgs a) S2:=by
  rw [hS2,dArgs,if_pos (by simpa using h1),hns]
  exact .inr ⟨g,rfl,by show upd _ g _ g=_;rw [upd_same];simp [fcs],hb1,hb2⟩
 have hE5:ExtM s S2:=by
  rw [hS2]
  exact mu_back hE1 hb1
 refine qk (kc rfl (kc rfl (kc rfl kn))) (kc rfl (kc rfl (kc rfl kn))) (sqn (eseq (ereg (qp rfl (qp rfl (hcall rfl rfl rfl (eachBranch_c a.brs dualB N69_ (fun b hb s hs=>by have:=H2 b hb s hs;exact this) hb _ (hD.ext hE5)) ?_))))))
 rotate_left
 all_goals
  rintro _ S6 ⟨rfl,hE6⟩
  refine qp J (hstl J J J J (Nlb J) (lq5 J) (qn (kq2 J) (kq2 J) (er (hlda J J (lq5 J) (hstl J J J J (Nlb J) (lq5 J) (qn (kq1 J) (kq1 J) ?_))))))
  obtain ⟨S9,w1,w2⟩:=frz_node (S0:=s) (op:=dualOp a.op) (nn:=a.n) (ty:=a.ty) (bs:=(a.brs.map dualB).map Br.enc) (hA5.mono hE6) (hE5.trans hE6)
  rw [List.map_map] at w1
  refine eretz_loc J w1 (fqr J ?_)
  rw [dualN_cs,List.map_map]
  exact ⟨rfl,w2⟩
end Go.Sim.Kd
namespace Go.Sim.Kd
open Go Go.Sim
theorem head_op {ds:List Decl} {fs:List CFun} {op n ty:Int} {h:List Int × List Xtor} (e:headOf ds fs op n ty=some h):0 ≤ op ∧ op ≤ 14:=by
 by_cases hc:0 ≤ op ∧ op ≤ 14
 ·exact hc
 exfalso
 unfold headOf at e
 rw [if_neg (by omega),if_neg (by omega),if_neg (by omega),if_neg (by omega),if_neg (by omega),if_neg (by omega),if_neg (by omega),if_neg (by omega),if_neg (by omega),if_neg (by omega),if_neg (by omega)] at e
 cases e
theorem node_c (ds:List Decl) (fs:List CFun) (a:Node):∀ {X A:Int → Bool},vN ds fs a X A=true → a.sz ≤ 2 ^ 30 → NodeC a:=by
 induction a using Node.ind with
 | h a ih1 ih2 =>
   intro X A hv hz s hD
   obtain ⟨p1,p2,want,xs,hh,_⟩:=vN_parts hv
   obtain ⟨o0,o1⟩:=head_op hh
   refine node_c0 a o0 o1 (len9 hv) (by have:=a.sz_args;omega) (by have:=a.sz_brs;omega) (fun b hb=>?_) (fun b hb=>?_) s hD
   ·obtain ⟨_,_,h⟩:=p1 b hb
    exact ih1 b hb h (by have:=Node.sz_arg hb;omega)
   obtain ⟨_,_,h⟩:=p2 b hb
   have h1:=Node.sz_br hb
   have h2:=b.sz_body
   have h3:=b.sz_vars
   have h4:=b.sz_co
   intro s hD
   exact dbranch_c b (by omega) (by omega) (ih2 b hb h (by omega)) s hD
theorem DQ.e {s s':Sg} (h:DQ s) (e:Ext s s'):DQ s':=by
 unfold DQ dualsIn at *
 rw [e.Q]
 exact h
theorem arg_c (a:Arg) (s:Sg) (hD:DQ s):HC p N26_ [.agg [I a.ty,B a.co]] s (fun r s'=>r=[.agg [I (dArg a).ty,B (dArg a).co]] ∧ ExtM s s'):=by
 refine hcf J f26_ J ?_
 simp only [chainOf]
 refine er (hbox (dc dn J) J (lq2 J) (hal (dq2 J) (qn (kq2 J) (kq2 J) (er (pq5 J (hbuild J J (lq2 J) (hstl J J J J (Nlb J) (lq2 J) (qn (kq1 J) (kq1 J) (eret (fqr J ?_))))))))))
 exact ⟨rfl,ExtM.refl _⟩
theorem dxtor_c (x:Xtor) (hx:x.args.length ≤ 2 ^ 30) (s:Sg) (hD:DQ s):HC p N24_ [.agg [Str x.name,encArgs x.args]] s (fun r s'=>r=[.agg [Str (dXtor x).name,encArgs (dXtor x).args]] ∧ ExtM s s'):=by
 refine hcf J f24_ J ?_
 simp only [chainOf]
 refine er (hbox (dc dn J) J (lq2 J) (hal (dq2 J) (qn (kq2 J) (kq2 J) (er (pq4 J (hcall J J J (eachArg_c x.args dArg N26_ (fun a _ s hs=>arg_c a s hs) hx _ hD) ?_))))))
 rintro _ S1 ⟨rfl,hE⟩
 refine hbuild J J (lq2 J) (hstl J J J J (Nlb J) (lq2 J) (qn (kq1 J) (kq1 J) (eret (fqr J ?_))))
 refine ⟨?_,hE⟩
 simp only [dXtor,encArgs]
 rw [List.map_map]
 rfl
theorem ddecl_c (d:Decl) (hd:d.xtors.length ≤ 2 ^ 30) (hx:∀ x ∈ d.xtors,x.args.length ≤ 2 ^ 30) (s:Sg) (hD:DQ s):HC p N22_ [.agg [Str d.name,B d.codata,SL 2 (d.xtors.map Xtor.enc)]] s (fun r s'=>r=[.agg [Str (dDecl d).name,B (dDecl d).codata,SL 2 ((dDecl d).xtors.map Xtor.enc)]] ∧ ExtM s s'):=by
 refine hcf J f22_ J ?_
 simp only [chainOf]
 refine er (hbox (dc dn J) J (lq3 J) (hal (dq2 J) (qn (kq2 J) (kq2 J) (er (pq6 J (qp J (hcall J J J (eachXtor_c d.xtors dXtor N24_ (fun x hm s hs=>dxtor_c x (hx x hm) s hs) hd _ hD) ?_)))))))
 rintro _ S1 ⟨rfl,hE⟩
 refine hbuild J J (lq3 J) (hstl J J J J (Nlb J) (lq3 J) (qn (kq1 J) (kq1 J) (eret (fqr J ?_))))
 refine ⟨?_,hE⟩
 simp only [dDecl]
 rw [List.map_map]
 rfl
theorem dfun_c (g:CFun) (hp:g.params.length ≤ 2 ^ 30) (hv:g.vars.length ≤ 2 ^ 40) (H:NodeC g.body) (s:Sg) (hD:DQ s):HC p N28_ [.agg (Str g.name :: encArgs g.params :: ints g.vars :: g.body.cs)] s (fun r s'=>r=[.agg (Str (dFun g).name :: encArgs (dFun g).params :: ints (dFun g).vars :: (dFun g).body.cs)] ∧ ExtM s s'):=by
 refine hcf J f28_ J ?_
 simp only [chainOf]
 refine er (hbox (dc dn J) J (lq8 J) (hal (dq2 J) (qn (kq2 J) (kq2 J) (er (pq4 J (hcall J J J (eachArg_c g.params dArg N26_ (fun a _ s hs=>arg_c a s hs) hp _ hD) ?_))))))
 rintro _ S1 ⟨rfl,hE1⟩
 refine pq2 J (hcall J J J (clone_c _ g.vars hv) ?_)
 rintro _ S0 ⟨⟨o,rfl⟩,hS0⟩
 obtain rfl:=hS0.symm
 refine qp J (hlda J J (lq5 J) (hcall J J J (H _ (hD.ext hE1)) ?_))
 rintro _ S2 ⟨rfl,hE2⟩
 refine hbuild J J (lq8 J) (hstl J J J J (Nlb J) (lq8 J) (qn (kq1 J) (kq1 J) (eret (fqr J ?_))))
 refine ⟨?_,hE1.trans hE2⟩
 simp only [dFun,encArgs]
 rw [List.map_map]
 rfl
theorem Dual_c (s:Sg) (hQ:QOK s) (hD:DQ s) (c:Core) (hc:CoreSz c) (hdl:c.decls.length ≤ 2 ^ 30) (hxl:∀ d ∈ c.decls,d.xtors.length ≤ 2 ^ 30) (hxa:∀ d ∈ c.decls,∀ x ∈ d.xtors,x.args.length ≤ 2 ^ 30) (hfl:c.funs.length ≤ 2 ^ 30) (hfp:∀ g ∈ c.funs,g.params.length ≤ 2 ^ 30) (hfv:∀ g ∈ c.funs,g.vars.length ≤ 2 ^ 40) (hbz:∀ g ∈ c.funs,g.body.sz ≤ 2 ^ 30):HC p N9_ [.agg (Core.cs c)] s (fun r s'=>r=(if coreOk c=true then if isPureC c=true then [.agg (Core.cs (dualC c)),I 0] else [.agg (Core.cs ⟨[],[]⟩),I 110] else [.agg (Core.cs ⟨[],[]⟩),I 60]) ∧ Ext s s'):=by
 refine hcf J f9_ J ?_
 simp only [chainOf]
 refine er (hbox (dc dn J) J (lq2 J) (hal (dq2 J) (qp J (qn (kq2 J) (kq2 J) (eseq (er (hlda J J (lq2 J) (hcall J J J (cValid_c _ hQ c hc hfv (fun g hg=>Nat.le_trans (hbz g hg) (by decide))) ?_))))))))
 rintro _ S1 ⟨rfl,hE⟩
 refine qb ?_
 rintro (_ | _) h1
 rotate_left
 refine qp J (qn (kq3 J) (kq2 J) (ecF J (eskip (sqn (eseq (er (hlda J J (lq2 J) (hcall J J J (isPure_c _ c hc (fun d hd=>Nat.le_trans (hxl d hd) (by decide)) (by omega) (by simp_all) (fun g hg=>Nat.le_trans (hbz g hg) (by decide))) ?_))))))))
 rintro _ _ ⟨rfl,rfl⟩
 refine qb ?_
 rintro (_ | _) h2
 rotate_left
 refine qp J (qn (kq3 J) (kq2 J) (ecF J (eskip (sqn (eseq (ereg_1 (dq3 J) (pq2 J (hcall J J J (eachDecl_c c.decls dDecl N22_ (fun d hm s hs=>ddecl_c d (hxl d hm) (hxa d hm) s hs) hdl _ (hD.e hE)) ?_))))))))
 rintro _ S2 ⟨rfl,hE2⟩
 refine pq2 J (hcall J J J (eachCoreFun_c c.funs dFun N28_ (fun g hm s hs=>dfun_c g (hfp g hm) (hfv g hm) (node_c _ _ _ (core_body (by simp_all) g hm).2.2.2 (hbz g hm)) s hs) hfl _ ((hD.e hE).ext hE2)) ?_)
 rintro _ S3 ⟨rfl,hE3⟩
 refine hbuild J J (lq2 J) (hal (dq10 J) (hstl J J J J (Nlb J) (lq2 J) (qn (kq2 J) (kq2 J) (er (hlda J J (lq2 J) (hstl J J J J (Nlb J) (lq2 J) (qp J (qn (kq2 J) (kq1 J) (eret (fqr J ?_))))))))))
 first
 | (rw [if_pos (by simp_all),if_pos (by simp_all)];refine ⟨?_,hE.trans (hE2.e.trans hE3.e)⟩;simp only [Core.cs,dualC];rw [List.map_map,List.map_map];rfl)
 | (rw [if_pos (by simp_all),if_neg (by simp_all)];exact ⟨rfl,hE⟩)
 | (rw [if_neg (by simp_all)];exact ⟨rfl,hE⟩)
 all_goals
  refine qp J (qn (kq3 J) (kq2 J) (ecT J (er (hbuild J J (lq2 J) (hstl J J J J (Nlb J) (lq2 J) (qp J (qn (kq2 J) (kq1 J) (eret (sqr (fqr J ?_))))))))))
  first
  | (rw [if_pos (by simp_all),if_pos (by simp_all)];refine ⟨?_,hE.trans (hE2.e.trans hE3.e)⟩;simp only [Core.cs,dualC];rw [List.map_map,List.map_map];rfl)
  | (rw [if_pos (by simp_all),if_neg (by simp_all)];exact ⟨rfl,hE⟩)
  | (rw [if_neg (by simp_all)];exact ⟨rfl,hE⟩)
end Go.Sim.Kd
namespace Go.Sim.Kd
open Go Go.Sim
theorem vNs_iff (ds:List Decl) (fs:List CFun) (X A:Int → Bool):∀ (l:List Node) (ws:List Int),vNs ds fs l ws X A=true ↔ l.length=ws.length ∧ ∀ (i:Nat) b w,l[i]?=some b → ws[i]?=some w → sortOf b.op=w ∧ vN ds fs b X A=true
 | [],[]=>by simp [vNs]
 | [],_ :: _=>by simp [vNs]
 | _ :: _,[]=>by simp [vNs]
 | a :: l,w :: ws=>by
   simp only [vNs,Bae,Dte,vNs_iff ds fs X A l ws,List.length_cons]
   constructor
   ·rintro ⟨⟨h1,h2⟩,h3,h4⟩
    refine ⟨by omega,fun i b w hb hw=>?_⟩
    cases i with
    | zero=>cases hb;cases hw;exact ⟨h1,h2⟩
    | succ i=>exact h4 i b w (by simpa using hb) (by simpa using hw)
   rintro ⟨h1,h2⟩
   exact ⟨h2 0 a w rfl rfl,by omega,fun i b w hb hw=>h2 (i + 1) b w (by simpa using hb) (by simpa using hw)⟩
def brP (ds:List Decl) (fs:List CFun) (b:Br) (x:Xtor):Prop:=b.vars.length=x.args.length ∧ b.co=x.args.map (fun a=>a.co) ∧ distinctOk [] (b.vars.zip b.co)=true ∧ sortOf b.body.op=2
theorem vBs_iff (ds:List Decl) (fs:List CFun) (X A:Int → Bool):∀ (l:List Br) (xs:List Xtor),vBs ds fs l xs X A=true ↔ l.length=xs.length ∧ ∀ (i:Nat) b x,l[i]?=some b → xs[i]?=some x → brP ds fs b x ∧ vN ds fs b.body (addsV false X b.vars b.co) (addsV true A b.vars b.co)=true
 | [],[]=>by simp [vBs]
 | [],_ :: _=>by simp [vBs]
 | _ :: _,[]=>by simp [vBs]
 | a :: l,w :: ws=>by
   simp only [vBs,Bae,vBs_iff ds fs X A l ws,List.length_cons,vB_eq,Dte]
   constructor
   ·rintro ⟨⟨⟨⟨⟨h1,h2⟩,h5⟩,h6⟩,h7⟩,h3,h4⟩
    refine ⟨by omega,fun i b w hb hw=>?_⟩
    cases i with
    | zero=>cases hb;cases hw;exact ⟨⟨h1,h2,h5,h6⟩,h7⟩
    | succ i=>exact h4 i b w (by simpa using hb) (by simpa using hw)
   rintro ⟨h1,h2⟩
   obtain ⟨⟨g1,g2,g3,g4⟩,g5⟩:=h2 0 a w rfl rfl
   exact ⟨⟨⟨⟨⟨g1,g2⟩,g3⟩,g4⟩,g5⟩,by omega,fun i b w hb hw=>h2 (i + 1) b w (by simpa using hb) (by simpa using hw)⟩
inductive PV (ds:List Decl) (fs:List CFun):Node → (Int → Bool) → (Int → Bool) → Prop
 | var {n X A}:numOk n=true → X n=true → PV ds fs (.mk 0 n 0 [] []) X A
 | cov {n X A}:numOk n=true → A n=true → PV ds fs (.mk 5 n 0 [] []) X A
 | xtor {n ty args X A} (co:Bool) (d:Decl) (x:Xtor):declAt ds ty=some d → d.codata=co → 0 ≤ n → d.xtors[n.toNat]?=some x → args.length=x.args.length →
    (∀ (i:Nat) (b:Node) (a:Arg),args[i]?=some b → x.args[i]?=some a → sortOf b.op=sideOf a.co) →
    (∀ (i:Nat) (b:Node) (a:Arg),args[i]?=some b → x.args[i]?=some a → PV ds fs b X A) → PV ds fs (.mk (if co then 6 else 2) n ty args []) X A
 | mu {n ty b X A} (co:Bool):ty ≠ 0 → typedOk ds ty=true → numOk n=true → sortOf b.op=2 → PV ds fs b (if co then addV X n else X) (if co then A else addV A n) → PV ds fs (.mk (if co then 7 else 3) n ty [b] []) X A
 | mat {ty brs X A} (co:Bool) (d:Decl):declAt ds ty=some d → d.codata=!co → brs.length=d.xtors.length → (∀ (i:Nat) (b:Br) (x:Xtor),brs[i]?=some b → d.xtors[i]?=some x → brP ds fs b x) →
    (∀ (i:Nat) (b:Br) (x:Xtor),brs[i]?=some b → d.xtors[i]?=some x → PV ds fs b.body (addsV false X b.vars b.co) (addsV true A b.vars b.co)) → PV ds fs (.mk (if co then 8 else 4) 0 ty [] brs) X A
 | cut {ty b c X A}:ty ≠ 0 → typedOk ds ty=true → sortOf b.op=0 → sortOf c.op=1 → PV ds fs b X A → PV ds fs c X A → PV ds fs (.mk 9 0 ty [b,c] []) X A
 | emit {m b X A}:sortOf b.op=2 → PV ds fs b X A → PV ds fs (.mk 12 0 0 [.mk 1 m 0 [] [],b] []) X A
 | call {n args X A} (f:CFun):0 ≤ n → fs[n.toNat]?=some f → args.length=f.params.length →
    (∀ (i:Nat) (b:Node) (a:Arg),args[i]?=some b → f.params[i]?=some a → sortOf b.op=sideOf a.co) →
    (∀ (i:Nat) (b:Node) (a:Arg),args[i]?=some b → f.params[i]?=some a → PV ds fs b X A) → PV ds fs (.mk 13 n 0 args []) X A
 | done {m X A}:PV ds fs (.mk 14 0 0 [.mk 1 m 0 [] []] []) X A
theorem get_mem {α β:Type} {l:List α} {m:List β} (h:l.length=m.length) {a:α} (ha:a ∈ l):∃ (i:Nat) (b:β),l[i]?=some a ∧ m[i]?=some b:=by
 obtain ⟨i,hi,e⟩:=List.mem_iff_getElem.1 ha
 exact ⟨i,m[i]'(by omega),by rw [List.getElem?_eq_getElem hi,e],List.getElem?_eq_getElem _⟩
theorem vN_int (ds:List Decl) (fs:List CFun) (m:Int) (X A:Int → Bool):vN ds fs (.mk 1 m 0 [] []) X A=true:=by
 simp [vN,headOf,vNs,vBs]
theorem PV.ok {ds:List Decl} {fs:List CFun} {a:Node} {X A:Int → Bool} (h:PV ds fs a X A):vN ds fs a X A=true ∧ pureN a=true:=by
 induction h with
 | var h1 h2=>refine ⟨?_,?_⟩;simp [vN,headOf,h1,h2,vNs,vBs];simp [pureN,pureNs,pureBs]
 | cov h1 h2=>refine ⟨?_,?_⟩;simp [vN,headOf,h1,h2,vNs,vBs];simp [pureN,pureNs,pureBs]
 | @xtor n ty args X A co d x h1 h2 h3 h4 h5 h6 _ ih =>
   constructor
   ·have e:headOf ds fs (if co then 6 else 2) n ty=some (x.args.map fun a=>sideOf a.co,[]):=by
     cases co <;> simp [headOf,h1,h2,h3,h4]
    rw [vN_eq]
    simp only [Node.op,Node.n,Node.ty,Node.args,Node.brs,e]
    have:vNs ds fs args (x.args.map fun a=>sideOf a.co) X A=true:=by
     rw [vNs_iff]
     refine ⟨by simpa using h5,fun i b w hb hw=>?_⟩
     rw [Lgm] at hw
     obtain ⟨a,ha,rfl⟩:=Option.map_eq_some_iff.1 hw
     exact ⟨h6 i b a hb ha,(ih i b a hb ha).1⟩
    cases co <;> simp [this,vBs]
   rw [pureN_eq]
   have e:(args.any fun b=>!pureN b)=false:=by
    rw [List.any_eq_false]
    intro b hb
    obtain ⟨i,a,h7,h8⟩:=get_mem h5 hb
    simp [(ih i b a h7 h8).2]
   cases co <;> simp [Node.op,Node.args,Node.brs,e] <;> simpa using e
 | @mu n ty b X A co h1 h2 h3 h4 _ ih =>
   constructor
   ·rw [vN_eq]
    cases co <;> simp_all [Node.op,Node.n,Node.ty,Node.args,Node.brs,headOf,vNs,vBs]
   rw [pureN_eq]
   cases co <;> simp_all [Node.op,Node.n,Node.ty,Node.args,Node.brs]
 | @mat ty brs X A co d h1 h2 h3 h4 _ ih =>
   constructor
   ·have e:headOf ds fs (if co then 8 else 4) 0 ty=some ([],d.xtors):=by
     cases co <;> simp [headOf,h1,h2]
    rw [vN_eq]
    simp only [Node.op,Node.n,Node.ty,Node.args,Node.brs,e]
    have:vBs ds fs brs d.xtors X A=true:=by
     rw [vBs_iff]
     exact ⟨h3,fun i b x hb hx=>⟨h4 i b x hb hx,(ih i b x hb hx).1⟩⟩
    cases co <;> simp [this,vNs]
   rw [pureN_eq]
   have e:(brs.any fun b=>!pureN b.body)=false:=by
    rw [List.any_eq_false]
    intro b hb
    obtain ⟨i,a,h7,h8⟩:=get_mem h3 hb
    simp [(ih i b a h7 h8).2]
   cases co <;> simp [Node.op,Node.args,Node.brs,e] <;> simpa using e
 | cut h1 h2 h3 h4 _ _ ih1 ih2 =>
   constructor
   ·rw [vN_eq]
    simp_all [Node.op,Node.n,Node.ty,Node.args,Node.brs,headOf,vNs,vBs]
   rw [pureN_eq]
   simp_all [Node.op,Node.n,Node.ty,Node.args,Node.brs]
 | emit h1 _ ih =>
   constructor
   ·rw [vN_eq]
    simp_all [Node.op,Node.n,Node.ty,Node.args,Node.brs,headOf,vNs,vBs,vN_int]
    first | done | rfl
   rw [pureN_eq]
   simp_all [Node.op,Node.n,Node.ty,Node.args,Node.brs]
 | @call n args X A f h1 h2 h3 h4 _ ih =>
   constructor
   ·have e:headOf ds fs 13 n 0=some (f.params.map fun a=>sideOf a.co,[]):=by
     simp [headOf,h1,h2]
    rw [vN_eq]
    simp only [Node.op,Node.n,Node.ty,Node.args,Node.brs,e]
    have:vNs ds fs args (f.params.map fun a=>sideOf a.co) X A=true:=by
     rw [vNs_iff]
     refine ⟨by simpa using h3,fun i b w hb hw=>?_⟩
     rw [Lgm] at hw
     obtain ⟨a,ha,rfl⟩:=Option.map_eq_some_iff.1 hw
     exact ⟨h4 i b a hb ha,(ih i b a hb ha).1⟩
    simp [this,vBs]
   rw [pureN_eq]
   have e:(args.any fun b=>!pureN b)=false:=by
    rw [List.any_eq_false]
    intro b hb
    obtain ⟨i,a,h7,h8⟩:=get_mem h3 hb
    simp [(ih i b a h7 h8).2]
   simpa [Node.op,Node.args,Node.brs] using e
 | done =>
   constructor
   ·rw [vN_eq]
    simp [Node.op,Node.n,Node.ty,Node.args,Node.brs,headOf,vNs,vBs,vN_int]
    first | done | rfl
   rw [pureN_eq]
   simp_all [Node.op,Node.n,Node.ty,Node.args,Node.brs]
theorem len_two {α:Type} {l:List α} (h:l.length=2):∃ b c,l=[b,c]:=by
 match l,h with
 | [b,c],_=>exact ⟨b,c,rfl⟩
theorem eta_node (a:Node):a=.mk a.op a.n a.ty a.args a.brs:=by cases a;rfl
theorem int_node {ds:List Decl} {fs:List CFun} {a:Node} {X A:Int → Bool} (h:vN ds fs a X A=true) (e:a.op=1):a=.mk 1 a.n 0 [] []:=by
 cases a with
 | mk op n ty args brs =>
   simp only [Node.op] at e
   subst e
   rw [vN_eq] at h
   simp only [Node.op,Node.n,Node.ty,Node.args,Node.brs,headOf] at h
   by_cases ht:ty=0
   ·subst ht
    simp at h
    cases args with
    | nil=>cases brs with
      | nil=>rfl
      | cons b l=>simp [vBs] at h
    | cons b l=>simp [vNs] at h
   simp [ht] at h
theorem PV.of {ds:List Decl} {fs:List CFun} (a:Node):∀ {X A:Int → Bool},vN ds fs a X A=true → pureN a=true → PV ds fs a X A:=by
 induction a using Node.ind with
 | h a ih1 ih2 =>
   intro X A hv hp
   have hv0:=hv
   obtain ⟨_,_,want,xs,hh,hl⟩:=vN_parts hv
   obtain ⟨o0,o1⟩:=head_op hh
   rw [vN_eq,hh] at hv
   simp only [Bae] at hv
   obtain ⟨⟨hv1,hv2⟩,hv3⟩:=hv
   rw [pureN_eq] at hp
   rw [vNs_iff] at hv2
   rw [vBs_iff] at hv3
   have nil_br:xs=[] → a.brs=[]:=fun e=>Lnl (by rw [hv3.1,e];rfl)
   have nil_ar:want=[] → a.args=[]:=fun e=>Lnl (by rw [hv2.1,e];rfl)
   have hops:a.op=0 ∨ a.op=5 ∨ a.op=1 ∨ a.op=2 ∨ a.op=6 ∨ a.op=3 ∨ a.op=7 ∨ a.op=4 ∨ a.op=8 ∨ a.op=9 ∨ a.op=10 ∨ a.op=11 ∨ a.op=12 ∨ a.op=13 ∨ a.op=14:=by omega
   have key:∀ co:Bool,a.op=(if co then 6 else 2) → PV ds fs a X A:=by
    intro co ho
    have hh2:=hh
    simp only [headOf,ho] at hh2
    have e1:¬ ((if co=true then (6:Int) else 2)=0 ∨ (if co=true then (6:Int) else 2)=5):=by cases co <;> decide
    have e2:¬ ((if co=true then (6:Int) else 2)=1):=by cases co <;> decide
    have e3:((if co=true then (6:Int) else 2)=2 ∨ (if co=true then (6:Int) else 2)=6):=by cases co <;> decide
    have e9:decide ((if co=true then (6:Int) else 2)=6)=co:=by cases co <;> rfl
    rw [if_neg e1,if_neg e2,if_pos e3,e9] at hh2
    split at hh2
    ·rename_i d hd
     split at hh2
     ·rename_i hc
      obtain ⟨x,hx,he⟩:=Option.map_eq_some_iff.1 hh2
      obtain ⟨rfl,rfl⟩:_ ∧ _:=by simpa using he
      have hp':∀ b ∈ a.args,pureN b=true:=by
       rw [ho] at hp
       cases co <;> simp at hp <;> exact hp.1
      have hco:d.codata=co:=hc.1
      have hlen:a.args.length=x.args.length:=by simpa using hv2.1
      rw [eta_node a,ho,nil_br rfl]
      refine .xtor co d x hd hco hc.2 hx hlen (fun i b g hb hg=>?_) (fun i b g hb hg=>?_)
      ·exact (hv2.2 i b _ hb (by rw [Lgm,hg];rfl)).1
      have hm:=Lmg hb
      have h9:=(hv2.2 i b _ hb (by rw [Lgm,hg];rfl)).2
      rw [ho] at h9
      refine ih1 b hm ?_ (hp' b hm)
      cases co <;> simpa using h9
     cases hh2
    cases hh2
   have keyM:∀ co:Bool,a.op=(if co then 7 else 3) → PV ds fs a X A:=by
    intro co ho
    have hh2:=hh
    simp only [headOf,ho] at hh2
    have e1:¬ ((if co=true then (7:Int) else 3)=0 ∨ (if co=true then (7:Int) else 3)=5):=by cases co <;> decide
    have e2:¬ ((if co=true then (7:Int) else 3)=1):=by cases co <;> decide
    have e3:¬ ((if co=true then (7:Int) else 3)=2 ∨ (if co=true then (7:Int) else 3)=6):=by cases co <;> decide
    have e4:((if co=true then (7:Int) else 3)=3 ∨ (if co=true then (7:Int) else 3)=7):=by cases co <;> decide
    rw [if_neg e1,if_neg e2,if_neg e3,if_pos e4] at hh2
    split at hh2
    ·rename_i hc
     obtain ⟨rfl,rfl⟩:_ ∧ _:=by simpa using hh2
     obtain ⟨b,hb⟩:∃ b,a.args=[b]:=List.length_eq_one_iff.1 (by rw [hv2.1];rfl)
     have h9:=hv2.2 0 b 2 (by rw [hb];rfl) rfl
     have hp':a.ty ≠ 0 ∧ pureN b=true:=by
      rw [ho,hb] at hp
      cases co <;> simp at hp <;> exact ⟨hp.1,hp.2.1⟩
     rw [eta_node a,ho,nil_br rfl,hb]
     refine .mu co hp'.1 hc.1 hc.2 h9.1 (ih1 b (by rw [hb];simp) ?_ hp'.2)
     have h8:=h9.2
     rw [ho] at h8
     cases co <;> simpa using h8
    cases hh2
   have keyB:∀ co:Bool,a.op=(if co then 8 else 4) → PV ds fs a X A:=by
    intro co ho
    have hh2:=hh
    simp only [headOf,ho] at hh2
    have e1:¬ ((if co=true then (8:Int) else 4)=0 ∨ (if co=true then (8:Int) else 4)=5):=by cases co <;> decide
    have e2:¬ ((if co=true then (8:Int) else 4)=1):=by cases co <;> decide
    have e3:¬ ((if co=true then (8:Int) else 4)=2 ∨ (if co=true then (8:Int) else 4)=6):=by cases co <;> decide
    have e4:¬ ((if co=true then (8:Int) else 4)=3 ∨ (if co=true then (8:Int) else 4)=7):=by cases co <;> decide
    have e5:((if co=true then (8:Int) else 4)=4 ∨ (if co=true then (8:Int) else 4)=8):=by cases co <;> decide
    have e9:decide ((if co=true then (8:Int) else 4)=4)=!co:=by cases co <;> rfl
    rw [if_neg e1,if_neg e2,if_neg e3,if_neg e4,if_pos e5,e9] at hh2
    split at hh2
    ·rename_i d hd
     split at hh2
     ·rename_i hc
      obtain ⟨rfl,rfl⟩:_ ∧ _:=by simpa using hh2
      have hp':∀ b ∈ a.brs,pureN b.body=true:=by
       rw [ho] at hp
       cases co <;> simp at hp <;> exact hp.2
      have hco:d.codata=!co:=hc.1
      rw [eta_node a,ho,nil_ar rfl,hc.2]
      refine .mat co d hd hco hv3.1 (fun i b x hb hx=>(hv3.2 i b x hb hx).1) (fun i b x hb hx=>?_)
      have hm:=Lmg hb
      exact ih2 b hm (hv3.2 i b x hb hx).2 (hp' b hm)
     cases hh2
    cases hh2
   rcases hops with o | o | o | o | o | o | o | o | o | o | o | o | o | o | o
   ·simp only [headOf,o] at hh
    simp only [true_or,if_true] at hh
    split at hh
    ·rename_i hc
     obtain ⟨rfl,rfl⟩:_ ∧ _:=by simpa using hh
     rw [eta_node a,o,nil_br rfl,nil_ar rfl,hc.1]
     exact .var hc.2 (by simpa [o] using hv1)
    cases hh
   ·simp only [headOf,o] at hh
    simp only [or_true,if_true] at hh
    split at hh
    ·rename_i hc
     obtain ⟨rfl,rfl⟩:_ ∧ _:=by simpa using hh
     rw [eta_node a,o,nil_br rfl,nil_ar rfl,hc.1]
     exact .cov hc.2 (by simpa [o] using hv1)
    cases hh
   ·rw [o] at hp;simp at hp
   ·exact key false o
   ·exact key true o
   ·exact keyM false o
   ·exact keyM true o
   ·exact keyB false o
   ·exact keyB true o
   ·simp [headOf,o] at hh
    obtain ⟨hc,rfl,rfl⟩:=hh
    obtain ⟨b,c,hb⟩:∃ b c,a.args=[b,c]:=len_two (by rw [hv2.1];rfl)
    have h8:=hv2.2 0 b 0 (by rw [hb];rfl) rfl
    have h9:=hv2.2 1 c 1 (by rw [hb];rfl) rfl
    rw [o,hb] at hp
    simp at hp
    simp [o] at h8 h9
    rw [eta_node a,o,nil_br rfl,hb,hc.2]
    exact .cut hp.1 hc.1 h8.1 h9.1 (ih1 b (by rw [hb];simp) h8.2 hp.2.1.1) (ih1 c (by rw [hb];simp) h9.2 hp.2.1.2)
   ·rw [o] at hp;simp at hp
   ·rw [o] at hp;simp at hp
   ·simp [headOf,o] at hh
    obtain ⟨hc,rfl,rfl⟩:=hh
    obtain ⟨b,c,hb⟩:∃ b c,a.args=[b,c]:=len_two (by rw [hv2.1];rfl)
    have h8:=hv2.2 0 b 0 (by rw [hb];rfl) rfl
    have h9:=hv2.2 1 c 2 (by rw [hb];rfl) rfl
    rw [o,hb] at hp
    simp at hp
    simp [o] at h8 h9
    have e:=int_node h8.2 hp.1
    rw [eta_node a,o,nil_br rfl,hb,hc.2,hc.1,e]
    exact .emit h9.1 (ih1 c (by rw [hb];simp) h9.2 hp.2)
   ·simp only [headOf,o] at hh
    simp at hh
    obtain ⟨hc,f,hf,rfl,rfl⟩:=hh
    have hp':∀ b ∈ a.args,pureN b=true:=by
     rw [o] at hp
     simp at hp
     exact hp.1
    rw [eta_node a,o,nil_br rfl,hc.1]
    refine .call f hc.2 hf (by simpa using hv2.1) (fun i b g hb hg=>?_) (fun i b g hb hg=>?_)
    ·exact (hv2.2 i b _ hb (by rw [Lgm,hg];rfl)).1
    have hm:=Lmg hb
    have h9:=(hv2.2 i b _ hb (by rw [Lgm,hg];rfl)).2
    refine ih1 b hm ?_ (hp' b hm)
    simpa [o] using h9
   simp [headOf,o] at hh
   obtain ⟨hc,rfl,rfl⟩:=hh
   obtain ⟨b,hb⟩:∃ b,a.args=[b]:=List.length_eq_one_iff.1 (by rw [hv2.1];rfl)
   have h8:=hv2.2 0 b 0 (by rw [hb];rfl) rfl
   rw [o,hb] at hp
   simp at hp
   simp [o] at h8
   have e:=int_node h8.2 hp
   rw [eta_node a,o,nil_br rfl,hb,hc.2,hc.1,e]
   exact .done
end Go.Sim.Kd
namespace Go.Sim.Kd
open Go Go.Sim
theorem addsV_not (w:Bool):∀ (vars:List Int) (cos:List Bool) (X:Int → Bool),vars.length=cos.length → addsV w X vars (cos.map not)=addsV (!w) X vars cos
 | [],_,X,_=>by simp [addsV]
 | v :: vs,[],X,h=>by simp at h
 | v :: vs,c :: cs,X,h=>by
   simp only [List.map_cons,addsV,List.headD_cons,List.tail_cons]
   rw [addsV_not w vs cs _ (by simpa using h)]
   cases c <;> cases w <;> simp
theorem dist_map:∀ (l seen:List (Int × Bool)),distinctOk (seen.map fun q=>(q.1,!q.2)) (l.map fun q=>(q.1,!q.2))=distinctOk seen l
 | [],seen=>by simp [distinctOk]
 | p :: ps,seen=>by
   simp only [List.map_cons,distinctOk]
   have e:((seen.map fun q=>(q.1,!q.2)) ++ [(p.1,!p.2)])=(seen ++ [p]).map fun q=>(q.1,!q.2):=by simp
   rw [e,dist_map ps (seen ++ [p]),List.any_map]
   congr 3
   congr 1
   funext q
   simp only [Function.comp,Pie,Bool.not_eq_not]
   by_cases h:q=p
   ·subst h;simp
   have h2:¬ (q.1=p.1 ∧ q.2=p.2):=fun h'=>h (Prod.ext h'.1 h'.2)
   simp [h,h2]
theorem dist_not (vars:List Int) (cos:List Bool):distinctOk [] (vars.zip (cos.map not))=distinctOk [] (vars.zip cos):=by
 have e:vars.zip (cos.map not)=(vars.zip cos).map fun q=>(q.1,!q.2):=by
  rw [List.zip_map_right]
  rfl
 rw [e]
 exact dist_map (vars.zip cos) []
theorem declAt_dual (ds:List Decl) (t:Int):declAt (ds.map dDecl) t=(declAt ds t).map dDecl:=by
 unfold declAt
 split
 ·rw [Lgm]
 rfl
theorem typedOk_dual (ds:List Decl) (t:Int):typedOk (ds.map dDecl) t=typedOk ds t:=by
 simp [typedOk]
theorem sortDual {ds:List Decl} {fs:List CFun} {a:Node} {X A:Int → Bool} (h:PV ds fs a X A):(sortOf a.op=0 → sortOf (dualN a).op=1) ∧ (sortOf a.op=1 → sortOf (dualN a).op=0) ∧ (sortOf a.op=2 → sortOf (dualN a).op=2):=by
 rw [dualN_op]
 cases h with
 | xtor co=>cases co <;> simp only [Node.op] <;> decide
 | mu co=>cases co <;> simp only [Node.op] <;> decide
 | mat co=>cases co <;> simp only [Node.op] <;> decide
 | _=>simp only [Node.op] <;> decide
theorem sortSide {ds:List Decl} {fs:List CFun} {a:Node} {X A:Int → Bool} (h:PV ds fs a X A) (g:Arg) (e:sortOf a.op=sideOf g.co):sortOf (dualN a).op=sideOf (dArg g).co:=by
 obtain ⟨h1,h2,_⟩:=sortDual h
 obtain ⟨ty,co⟩:=g
 cases co
 ·exact h1 e
 exact h2 e
theorem dualB_vars (b:Br):(dualB b).vars=b.vars:=by cases b;rfl
theorem dualB_co (b:Br):(dualB b).co=b.co.map not:=by cases b;rfl
theorem dualB_body (b:Br):(dualB b).body=dualN b.body:=by cases b;rfl
theorem dXtor_args (x:Xtor):(dXtor x).args=x.args.map dArg:=rfl
theorem dDecl_xtors (d:Decl):(dDecl d).xtors=d.xtors.map dXtor:=rfl
theorem dFun_params (d:CFun):(dFun d).params=d.params.map dArg:=rfl
theorem dual_mk (op n ty:Int) (args:List Node) (brs:List Br):dualN (.mk op n ty args brs)=.mk (dualOp op) n ty (if op=9 then (args.map dualN).reverse else args.map dualN) (brs.map dualB):=by
 rw [dualN_eq]
 rfl
theorem PV.dual {ds:List Decl} {fs:List CFun} {a:Node} {X A:Int → Bool} (h:PV ds fs a X A):PV (ds.map dDecl) (fs.map dFun) (dualN a) A X:=by
 induction h with
 | var h1 h2=>rw [dual_mk];exact .cov h1 h2
 | cov h1 h2=>rw [dual_mk];exact .var h1 h2
 | @xtor n ty args X A co d x h1 h2 h3 h4 h5 h6 hk ih =>
   rw [dual_mk]
   have e:PV (ds.map dDecl) (fs.map dFun) (.mk (if (!co)=true then 6 else 2) n ty (args.map dualN) []) A X:=by
    refine .xtor (!co) (dDecl d) (dXtor x) (by rw [declAt_dual,h1];rfl) (by simp [dDecl,h2]) h3 (by rw [dDecl_xtors,Lgm,h4];rfl) (by rw [dXtor_args];simpa using h5) ?_ ?_
    ·intro i b a hb ha
     rw [Lgm] at hb
     rw [dXtor_args,Lgm] at ha
     obtain ⟨b',hb',rfl⟩:=Option.map_eq_some_iff.1 hb
     obtain ⟨a',ha',rfl⟩:=Option.map_eq_some_iff.1 ha
     exact sortSide (hk i b' a' hb' ha') a' (h6 i b' a' hb' ha')
    intro i b a hb ha
    rw [Lgm] at hb
    rw [dXtor_args,Lgm] at ha
    obtain ⟨b',hb',rfl⟩:=Option.map_eq_some_iff.1 hb
    obtain ⟨a',ha',rfl⟩:=Option.map_eq_some_iff.1 ha
    exact ih i b' a' hb' ha'
   cases co <;> exact e
 | @mu n ty b X A co h1 h2 h3 h4 hk ih =>
   rw [dual_mk]
   have e:PV (ds.map dDecl) (fs.map dFun) (.mk (if (!co)=true then 7 else 3) n ty [dualN b] []) A X:=by
    refine .mu (!co) h1 (by rw [typedOk_dual];exact h2) h3 ((sortDual hk).2.2 h4) ?_
    cases co <;> exact ih
   cases co <;> exact e
 | @mat ty brs X A co d h1 h2 h3 h4 hk ih =>
   rw [dual_mk]
   have e:PV (ds.map dDecl) (fs.map dFun) (.mk (if (!co)=true then 8 else 4) 0 ty [] (brs.map dualB)) A X:=by
    refine .mat (!co) (dDecl d) (by rw [declAt_dual,h1];rfl) (by simp [dDecl,h2]) (by rw [dDecl_xtors];simpa using h3) ?_ ?_
    ·intro i b x hb hx
     rw [Lgm] at hb
     rw [dDecl_xtors,Lgm] at hx
     obtain ⟨b',hb',rfl⟩:=Option.map_eq_some_iff.1 hb
     obtain ⟨x',hx',rfl⟩:=Option.map_eq_some_iff.1 hx
     obtain ⟨g1,g2,g3,g4⟩:=h4 i b' x' hb' hx'
     refine ⟨by rw [dXtor_args,dualB_vars];simpa using g1,?_,?_,by rw [dualB_body];exact (sortDual (hk i b' x' hb' hx')).2.2 g4⟩
     ·rw [dualB_co,dXtor_args,List.map_map,g2,List.map_map]
      rfl
     rw [dualB_vars,dualB_co,dist_not]
     exact g3
    intro i b x hb hx
    rw [Lgm] at hb
    rw [dDecl_xtors,Lgm] at hx
    obtain ⟨b',hb',rfl⟩:=Option.map_eq_some_iff.1 hb
    obtain ⟨x',hx',rfl⟩:=Option.map_eq_some_iff.1 hx
    obtain ⟨g1,g2,g3,g4⟩:=h4 i b' x' hb' hx'
    rw [dualB_vars,dualB_co,dualB_body]
    have hl:b'.vars.length=b'.co.length:=by rw [g1,g2];simp
    rw [addsV_not _ _ _ _ hl,addsV_not _ _ _ _ hl]
    exact ih i b' x' hb' hx'
   cases co <;> exact e
 | @cut ty b c X A h1 h2 h3 h4 hb hc ih1 ih2 =>
   rw [dual_mk]
   exact .cut h1 (by rw [typedOk_dual];exact h2) ((sortDual hc).2.1 h4) ((sortDual hb).1 h3) ih2 ih1
 | @emit m b X A h1 hb ih =>
   rw [dual_mk]
   exact .emit ((sortDual hb).2.2 h1) ih
 | @call n args X A f h1 h2 h3 h4 hk ih =>
   rw [dual_mk]
   refine .call (dFun f) h1 (by rw [Lgm,h2];rfl) (by rw [dFun_params];simpa using h3) ?_ ?_
   ·intro i b a hb ha
    rw [if_neg (by decide),Lgm] at hb
    rw [dFun_params,Lgm] at ha
    obtain ⟨b',hb',rfl⟩:=Option.map_eq_some_iff.1 hb
    obtain ⟨a',ha',rfl⟩:=Option.map_eq_some_iff.1 ha
    exact sortSide (hk i b' a' hb' ha') a' (h4 i b' a' hb' ha')
   intro i b a hb ha
   rw [if_neg (by decide),Lgm] at hb
   rw [dFun_params,Lgm] at ha
   obtain ⟨b',hb',rfl⟩:=Option.map_eq_some_iff.1 hb
   obtain ⟨a',ha',rfl⟩:=Option.map_eq_some_iff.1 ha
   exact ih i b' a' hb' ha'
 | done=>rw [dual_mk];exact .done
theorem map_id' {α:Type} {f:α → α} {l:List α} (h:∀ a ∈ l,f a=a):l.map f=l:=by
 induction l with
 | nil=>rfl
 | cons a l ih=>rw [List.map_cons,h a (by simp),ih fun b hb=>h b (by simp [hb])]
theorem binds_dual (w:Bool):∀ (vars:List Int) (as:List Arg) (X:Int → Option Int),bindsT w X vars (as.map dArg)=bindsT (!w) X vars as
 | [],_,_=>by simp [bindsT]
 | _ :: _,[],_=>by simp [bindsT]
 | v :: vs,a :: as,X=>by
   simp only [List.map_cons,bindsT,dArg]
   rw [binds_dual w vs as]
   cases a.co <;> cases w <;> simp
theorem tNs_eq {ds ds':List Decl} {fs fs':List CFun} {X A X' A':Int → Option Int} {f:Node → Node}:∀ (l:List Node) (ws:List Int),(∀ b ∈ l,tN ds' fs' (f b) X' A'=tN ds fs b X A) → tNs ds' fs' (l.map f) ws X' A'=tNs ds fs l ws X A
 | [],_,_=>by simp [tNs]
 | _ :: _,[],_=>by simp [tNs]
 | b :: l,w :: ws,h=>by
   simp only [List.map_cons,tNs]
   rw [h b (by simp),tNs_eq l ws fun c hc=>h c (by simp [hc])]
theorem tBs_eq {ds ds':List Decl} {fs fs':List CFun} {X A X' A':Int → Option Int}:∀ (l:List Br) (xs:List Xtor),(∀ (i:Nat) b x,l[i]?=some b → xs[i]?=some x → tB ds' fs' (dualB b) (dXtor x) X' A'=tB ds fs b x X A) → tBs ds' fs' (l.map dualB) (xs.map dXtor) X' A'=tBs ds fs l xs X A
 | [],_,_=>by simp [tBs]
 | _ :: _,[],_=>by simp [tBs]
 | b :: l,w :: ws,h=>by
   simp only [List.map_cons,tBs]
   rw [h 0 b w rfl rfl,tBs_eq l ws fun i c x hc hx=>h (i + 1) c x (by simpa using hc) (by simpa using hx)]
theorem xtorTys_dual (ds:List Decl) (ty n:Int):xtorTys (ds.map dDecl) ty n=xtorTys ds ty n:=by
 unfold xtorTys
 rw [declAt_dual]
 cases declAt ds ty with
 | none=>rfl
 | some d =>
   simp only [Option.map_some,dDecl_xtors,Lgm]
   cases d.xtors[n.toNat]? with
   | none=>rfl
   | some x =>
     simp only [Option.map_some,dXtor_args,List.map_map]
     rfl
theorem xtorsOf_dual (ds:List Decl) (ty:Int):xtorsOf (ds.map dDecl) ty=(xtorsOf ds ty).map dXtor:=by
 unfold xtorsOf
 rw [declAt_dual]
 cases declAt ds ty <;> rfl
theorem parTys_dual (fs:List CFun) (n:Int):parTys (fs.map dFun) n=parTys fs n:=by
 unfold parTys
 rw [Lgm]
 cases fs[n.toNat]? with
 | none=>rfl
 | some f =>
   simp only [Option.map_some,dFun_params,List.map_map]
   rfl
theorem PV.type {ds:List Decl} {fs:List CFun} {a:Node} {X A:Int → Bool} (h:PV ds fs a X A):∀ Y B:Int → Option Int,tN (ds.map dDecl) (fs.map dFun) (dualN a) B Y=tN ds fs a Y B:=by
 induction h with
 | var h1 h2=>intro Y B;simp [dual_mk,dualOp,dualsL,tN]
 | cov h1 h2=>intro Y B;simp [dual_mk,dualOp,dualsL,tN]
 | @xtor n ty args X A co d x h1 h2 h3 h4 h5 h6 hk ih =>
   intro Y B
   have e:tNs (ds.map dDecl) (fs.map dFun) (args.map dualN) (xtorTys ds ty n) B Y=tNs ds fs args (xtorTys ds ty n) Y B:=tNs_eq _ _ fun b hb=>by
    obtain ⟨i,y,h7,h8⟩:=get_mem h5 hb
    exact ih i b y h7 h8 Y B
   cases co <;> simp [dual_mk,dualOp,dualsL,tN,xtorTys_dual,e]
 | @mu n ty b X A co h1 h2 h3 h4 hk ih=>intro Y B;cases co <;> simp [dual_mk,dualOp,dualsL,tN,tNs,ih]
 | @mat ty brs X A co d h1 h2 h3 h4 hk ih =>
   intro Y B
   have e:tBs (ds.map dDecl) (fs.map dFun) (brs.map dualB) ((xtorsOf ds ty).map dXtor) B Y=tBs ds fs brs (xtorsOf ds ty) Y B:=tBs_eq _ _ fun i b x hb hx=>by
    have hx':d.xtors[i]?=some x:=by
     unfold xtorsOf at hx
     rw [h1] at hx
     exact hx
    rw [tB_eq,tB_eq,dualB_vars,dualB_body,dXtor_args,binds_dual,binds_dual]
    rw [Bool.not_false,Bool.not_true,ih i b x hb hx']
   cases co <;> simp [dual_mk,dualOp,dualsL,tN,xtorsOf_dual,e]
 | @cut ty b c X A h1 h2 h3 h4 hb hc ih1 ih2 =>
   intro Y B
   simp [dual_mk,dualOp,dualsL,tN,tNs,ih1,ih2]
   simp only [and_comm]
 | @emit m b X A h1 hb ih=>intro Y B;simp [dual_mk,dualOp,dualsL,tN,tNs,ih]
 | @call n args X A f h1 h2 h3 h4 hk ih =>
   intro Y B
   have e:tNs (ds.map dDecl) (fs.map dFun) (args.map dualN) (parTys fs n) B Y=tNs ds fs args (parTys fs n) Y B:=tNs_eq _ _ fun b hb=>by
    obtain ⟨i,y,h7,h8⟩:=get_mem h3 hb
    exact ih i b y h7 h8 Y B
   simp [dual_mk,dualOp,dualsL,tN,parTys_dual,e]
 | done=>intro Y B;simp [dual_mk,dualOp,dualsL,tN,tNs]
end Go.Sim.Kd
namespace Go.Sim.Kd
open Go Go.Sim
theorem szNs_app (l m:List Node):szNs (l ++ m)=szNs l + szNs m:=by induction l with
 | nil=>simp [szNs]
 | cons a l ih=>simp only [List.cons_append,szNs,ih];omega
theorem szNs_rev (l:List Node):szNs l.reverse=szNs l:=by induction l with
 | nil=>rfl
 | cons a l ih=>rw [List.reverse_cons,szNs_app,ih];simp only [szNs];omega
theorem szNs_map {f:Node → Node}:∀ (l:List Node),(∀ b ∈ l,(f b).sz=b.sz) → szNs (l.map f)=szNs l
 | [],_=>rfl
 | b :: l,h=>by simp only [List.map_cons,szNs];rw [h b (by simp),szNs_map l fun c hc=>h c (by simp [hc])]
theorem szBs_map {f:Br → Br}:∀ (l:List Br),(∀ b ∈ l,(f b).sz=b.sz) → szBs (l.map f)=szBs l
 | [],_=>rfl
 | b :: l,h=>by simp only [List.map_cons,szBs];rw [h b (by simp),szBs_map l fun c hc=>h c (by simp [hc])]
theorem szL_map {α:Type} {s:α → Nat} {f:α → α}:∀ (l:List α),(∀ b ∈ l,s (f b)=s b) → szL s (l.map f)=szL s l
 | [],_=>rfl
 | b :: l,h=>by simp only [List.map_cons,szL];rw [h b (by simp),szL_map l fun c hc=>h c (by simp [hc])]
theorem Node.sz_eq (a:Node):a.sz=1 + szNs a.args + szBs a.brs:=by cases a;rfl
theorem dual_sz (a:Node):(dualN a).sz=a.sz:=by
 induction a using Node.ind with
 | h a ih1 ih2 =>
   have e1:szNs (a.args.map dualN)=szNs a.args:=szNs_map _ ih1
   have e2:szBs (a.brs.map dualB)=szBs a.brs:=szBs_map _ fun b hb=>by
    rw [Br.sz_eq,Br.sz_eq,dualB_vars,dualB_co,dualB_body,ih2 b hb,List.length_map]
   rw [dualN_eq,Node.sz_eq,Node.sz_eq a]
   show 1 + szNs (if a.op=9 then (a.args.map dualN).reverse else a.args.map dualN) + szBs (a.brs.map dualB)=_
   split
   ·rw [szNs_rev,e1,e2]
   rw [e1,e2]
theorem dualC_sz (c:Core):(dualC c).sz=c.sz:=by
 have e1:szL Decl.sz (c.decls.map dDecl)=szL Decl.sz c.decls:=szL_map _ fun d _=>by
  have e2:szL Xtor.sz (d.xtors.map dXtor)=szL Xtor.sz d.xtors:=szL_map _ fun x _=>by
   show 1 + x.name.size + (x.args.map dArg).length=1 + x.name.size + x.args.length
   rw [List.length_map]
  show 1 + d.name.size + szL Xtor.sz (d.xtors.map dXtor)=1 + d.name.size + szL Xtor.sz d.xtors
  rw [e2]
 have e3:szL CFun.sz (c.funs.map dFun)=szL CFun.sz c.funs:=szL_map _ fun g _=>by
  show 1 + g.name.size + (g.params.map dArg).length + g.vars.length + (dualN g.body).sz=1 + g.name.size + g.params.length + g.vars.length + g.body.sz
  rw [List.length_map,dual_sz]
 show 1 + szL Decl.sz (c.decls.map dDecl) + szL CFun.sz (c.funs.map dFun)=1 + szL Decl.sz c.decls + szL CFun.sz c.funs
 rw [e1,e3]
structure SzD (c:Core):Prop where
 z:c.sz ≤ 2 ^ 40
 hc:CoreSz c
 dl:c.decls.length ≤ 2 ^ 30
 xl:∀ d ∈ c.decls,d.xtors.length ≤ 2 ^ 30
 xa:∀ d ∈ c.decls,∀ x ∈ d.xtors,x.args.length ≤ 2 ^ 30
 fl:c.funs.length ≤ 2 ^ 30
 fp:∀ g ∈ c.funs,g.params.length ≤ 2 ^ 30
 fv:∀ g ∈ c.funs,g.vars.length ≤ 2 ^ 40
 bz:∀ g ∈ c.funs,g.body.sz ≤ 2 ^ 30
theorem SzD.of {c:Core} (h:c.sz ≤ 2 ^ 30):SzD c:=by
 have h0:=h
 unfold Core.sz at h
 have hd:c.decls.length ≤ szL Decl.sz c.decls:=szL_len fun d=>by unfold Decl.sz;omega
 have hf:c.funs.length ≤ szL CFun.sz c.funs:=szL_len CFun.sz_pos
 have hg:∀ g ∈ c.funs,g.sz ≤ 2 ^ 30:=fun g hg=>by have:=szL_mem (f:=CFun.sz) hg;omega
 have hD:∀ d ∈ c.decls,d.sz ≤ 2 ^ 30:=fun g hg=>by have:=szL_mem (f:=Decl.sz) hg;omega
 have hx:∀ d ∈ c.decls,d.xtors.length ≤ 2 ^ 30:=fun d h1=>by
  have:=hD d h1
  have h2:d.xtors.length ≤ szL Xtor.sz d.xtors:=szL_len fun x=>by unfold Xtor.sz;omega
  unfold Decl.sz at this
  omega
 have hxa:∀ d ∈ c.decls,∀ x ∈ d.xtors,x.args.length ≤ 2 ^ 30:=fun d h1 x h2=>by
  have:=hD d h1
  have h3:=szL_mem (f:=Xtor.sz) h2
  unfold Decl.sz at this
  have e2:x.sz=1 + x.name.size + x.args.length:=rfl
  omega
 have hgp:∀ g ∈ c.funs,g.params.length ≤ 2 ^ 30 ∧ g.vars.length ≤ 2 ^ 30 ∧ g.body.sz ≤ 2 ^ 30:=fun g h1=>by have:=hg g h1;unfold CFun.sz at this;omega
 exact ⟨by omega,⟨by omega,fun d h1 x h2=>Nat.le_trans (hxa d h1 x h2) (by decide),fun g h1=>Nat.le_trans (hgp g h1).1 (by decide)⟩,by omega,hx,hxa,by omega,fun g h1=>(hgp g h1).1,fun g h1=>Nat.le_trans (hgp g h1).2.1 (by decide),fun g h1=>(hgp g h1).2.2⟩
theorem awake_c (s:Sg) (hQ:QOK s) (hD:DQ s):HC p N7_ [] s (fun r s'=>r=[B true] ∧ s'=s):=by
 refine ⟨_,s,?_,J,J⟩
 rw [callL_eq]
 have e:p.ov N7_=some awakeOv:=rfl
 rw [e]
 simp only [awakeOv]
 rw [if_pos ⟨rfl,by rw [Bae];exact ⟨hQ,hD⟩⟩]
theorem QOK.e {s s':Sg} (h:QOK s) (e:Ext s s'):QOK s':=by
 unfold QOK at *
 rw [e.Q]
 exact h
end Go.Sim.Kd
namespace Go.Sim.Kd
open Go Go.Sim
def rArgs (op:Int):Nat → List Node → Bool
 | _,[]=>true
 | i,x :: l=>(if i=0 ∧ (op=12 ∨ op=14) then decide (x.op=1) else pureN x) && rArgs op (i + 1) l
theorem rArgs_all (op:Int):∀ (l:List Node) (i:Nat),(i ≠ 0 ∨ ¬ (op=12 ∨ op=14)) → rArgs op i l=l.all pureN
 | [],_,_=>rfl
 | x :: l,i,h=>by
   simp only [rArgs,List.all_cons]
   rw [if_neg (by rintro ⟨h1,h2⟩;rcases h with h | h <;> contradiction),rArgs_all op l (i + 1) (.inl (by omega))]
theorem brs_leaf {ds:List Decl} {fs:List CFun} {a:Node} {X A:Int → Bool} (h:vN ds fs a X A=true) (e:a.op ≠ 4) (e2:a.op ≠ 8):a.brs=[]:=by
 obtain ⟨want,xs,h1,_,h3,_⟩:=vN_some h
 rw [head_nil h1 e e2] at h3
 have:=vBs_len h3
 exact Lnl (by simpa using this)
theorem rPure_eq {ds:List Decl} {fs:List CFun} {a:Node} {X A:Int → Bool} (h:vN ds fs a X A=true) (h1:¬ (a.op=1 ∨ a.op=10 ∨ a.op=11)) (h2:¬ ((a.op=3 ∨ a.op=7 ∨ a.op=9) ∧ a.ty=0)) :
 pureN a=(rArgs a.op 0 a.args && a.brs.all fun b=>pureN b.body):=by
 rw [pureN_eq,if_neg h2,if_neg (by omega)]
 by_cases e:a.op=12
 ·rw [if_pos e,brs_leaf h (by omega) (by omega)]
  obtain ⟨x,y,hxy⟩:=len_two (len12 h e)
  rw [hxy]
  simp [rArgs,e]
 rw [if_neg e]
 by_cases e2:a.op=14
 ·rw [if_pos e2,brs_leaf h (by omega) (by omega)]
  have:=len14 h e2
  match a.args,this with
  | [x],_=>simp [rArgs,e2]
 rw [if_neg e2,rArgs_all _ _ _ (.inr (by omega))]
 congr 1
 ·rw [List.not_any_eq_all_not];simp
 rw [List.not_any_eq_all_not];simp
def RPure (b:Node):Prop:=∀ s,HC p N42_ [.agg b.cs] s (fun r s'=>r=[B (pureN b)] ∧ s'=s)
theorem rn_l1 (e:Node) (l:List Node) (H:∀ b ∈ l,RPure b) (i:Nat) (hi:i ≤ l.length) (hs:l.length ≤ 2 ^ 40) {n:Nat} {v:Nat → Bool} {D:List (Nat × List AV)} {S:Sg} {Q:Ex → Fr → Prop}
 (hX:∀ j,rArgs e.op i (l.drop i)=true → Q (.exit 1) ⟨upd (uv (uv (uv (uv e0 24 (B false)) 23 (I j)) 22 (I (l.map Node.enc).length)) 21 (.slice .none 5 (l.map Node.enc))) 1 (some (.loc 1 0)),upd ((fun _=>none)) 1 (some (e.cs)),n,v,D,S⟩) (hR:rArgs e.op i (l.drop i)=false → Q .ret ⟨uv e0 2 (B false),(fun _=>none),n,v,D,S⟩):EX (callL p) (.loop F42_l1) ⟨upd (uv (uv (uv e0 23 (I i)) 22 (I (l.map Node.enc).length)) 21 (.slice .none 5 (l.map Node.enc))) 1 (some (.loc 1 0)),upd ((fun _=>none)) 1 (some (e.cs)),n,v,D,S⟩ Q:=by
 refine eloop (er (qp J (qb ?_)))
 rintro (_ | _) h1
 refine qn (kq5 J) (kq1 J) (eseq (ecF J (eexit (sqx ?_))))
 exact hX _ (by rw [List.drop_eq_nil_of_le (by simp at h1 ⊢;omega)];rfl)
 refine qn (kq5 J) (kq1 J) (eseq (ecT J (eskip (sqn (eseq (eblock (er (qp J ?_))))))))
 have hlt:i < l.length:=by simpa using h1
 obtain ⟨a,ha⟩:=get_of_lt hlt
 have hd:=drop_cons ha
 refine hia (y:=.agg a.cs) rfl rfl (by omega) (by simp [ha,Node.enc_eq,Br.enc_eq,CFun.enc_eq]) rfl (hlda rfl rfl (lc rfl (lc rfl (lc rfl (lc rfl (lc rfl (ln rfl)))))) (hal (dc (dc (dc (dc (dc (dc (dc (dc dn rfl) rfl) rfl) rfl) rfl) rfl) rfl) rfl) (qp rfl (hstl rfl rfl rfl rfl (Nlb rfl) (lc rfl (lc rfl (lc rfl (lc rfl (lc rfl (ln rfl)))))) (qk (kc rfl (kc rfl (kc rfl (kc rfl (kc rfl (kc rfl kn)))))) (kc rfl (kc rfl kn)) (sqn (eseq (eseq (ereg (qp rfl (qp rfl (qb ?_))))))))))))
 rintro (_ | _) h2
 refine qp J (zq8 J (qp J (qn (kq6 J) (kq2 J) (ecF J (eskip (sqn (er (hlda J J (lq5 J) (hcall J J J (H a (Lmg ha) _) ?_)))))))))
 rintro _ _ ⟨rfl,rfl⟩
 refine qb ?_
 rintro (_ | _) h3
 refine qp J (qn (kq5 J) (kq1 J) (ecT J (er (qp J (qn (kq1 J) kn (eret (bqr (sqr ?_))))))))
 exact hR (by rw [hd];simp_all [rArgs])
 refine qp J (qn (kq5 J) (kq1 J) (ecF J (eskip (bqn (sqn (ereg (hadd J J (i64w (by omega)) (qp J (qk (kq4 J) (kq1 J) ?_)))))))))
 rotate_left
 refine qp J (qg J (qp J (qg J (qp J (qg J (qp J (qb ?_)))))))
 rintro (_ | _) h4
 refine qg J (qp J (qg J (qp J (qg J (qp J (qg J (qp J (qb ?_))))))))
 rintro (_ | _) h5
 refine qg J (pq2 J (qn (kq6 J) (kq2 J) (ecF J (eskip (sqn (er (hlda J J (lq5 J) (hcall J J J (H a (Lmg ha) _) ?_))))))))
 rintro _ _ ⟨rfl,rfl⟩
 refine qb ?_
 rintro (_ | _) h6
 refine qp J (qn (kq5 J) (kq1 J) (ecT J (er (qp J (qn (kq1 J) kn (eret (bqr (sqr ?_))))))))
 exact hR (by rw [hd];simp_all [rArgs])
 refine qp J (qn (kq5 J) (kq1 J) (ecF J (eskip (bqn (sqn (ereg (hadd J J (i64w (by omega)) (qp J (qk (kq4 J) (kq1 J) ?_)))))))))
 rotate_left
 refine qg J (pq2 J (qn (kq6 J) (kq2 J) (ecT J (eseq (er (pq3 J (qb ?_)))))))
 rintro (_ | _) h7
 refine qn (kq5 J) (kq1 J) (ecF J (eskip (sqn (eexit (sqx (bqx (sqn (ereg (hadd J J (i64w (by omega)) (qp J (qk (kq4 J) (kq1 J) ?_)))))))))))
 rotate_left
 refine qn (kq5 J) (kq1 J) (ecT J (er (qp J (qn (kq1 J) kn (eret (sqr (sqr (bqr (sqr ?_)))))))))
 exact hR (by rw [hd];simp_all [rArgs])
 refine qg J (qp J (zq3 J (qg J (pq2 J (qn (kq6 J) (kq2 J) (ecT J (eseq (er (pq3 J (qb ?_))))))))))
 rintro (_ | _) h8
 refine qn (kq5 J) (kq1 J) (ecF J (eskip (sqn (eexit (sqx (bqx (sqn (ereg (hadd J J (i64w (by omega)) (qp J (qk (kq4 J) (kq1 J) ?_)))))))))))
 rotate_left
 refine qn (kq5 J) (kq1 J) (ecT J (er (qp J (qn (kq1 J) kn (eret (sqr (sqr (bqr (sqr ?_)))))))))
 exact hR (by rw [hd];simp_all [rArgs])
 all_goals
  exact rn_l1 e l H (i + 1) (by omega) hs (fun j h=>hX j (by rw [hd];simp_all [rArgs])) (fun h=>hR (by rw [hd];simp_all [rArgs]))
termination_by l.length - i
decreasing_by all_goals omega
theorem rn_l2 (l:List Br) (H:∀ b ∈ l,RPure b.body) (i:Nat) (hi:i ≤ l.length) (hs:l.length ≤ 2 ^ 40) {n:Nat} {v:Nat → Bool} {D:List (Nat × List AV)} {S:Sg} {Q:Ex → Fr → Prop}
 (hX:∀ j,(l.drop i).all (fun b=>pureN b.body)=true → Q (.exit 3) ⟨uv (uv (uv (uv e0 51 (B false)) 50 (I j)) 49 (I (l.map Br.enc).length)) 48 (.slice .none 7 (l.map Br.enc)),(fun _=>none),n,v,D,S⟩) (hR:(l.drop i).all (fun b=>pureN b.body)=false → Q .ret ⟨uv e0 2 (B false),(fun _=>none),n,v,D,S⟩):EX (callL p) (.loop F42_l2) ⟨uv (uv (uv e0 50 (I i)) 49 (I (l.map Br.enc).length)) 48 (.slice .none 7 (l.map Br.enc)),(fun _=>none),n,v,D,S⟩ Q:=by
 refine eloop (er (qp J (qb ?_)))
 rintro (_ | _) h1
 ·refine qn (kq4 J) kn (eseq (ecF J (eexit (sqx ?_))))
  exact hX _ (by rw [List.drop_eq_nil_of_le (by simp at h1 ⊢;omega)];rfl)
 refine qn (kq4 J) kn (eseq (ecT J (eskip (sqn (eseq (eblock (er ?_)))))))
 have hlt:i < l.length:=by simpa using h1
 obtain ⟨a,ha⟩:=get_of_lt hlt
 have hd:=drop_cons ha
 refine hia (y:=.agg (ints a.vars :: bools a.co :: a.body.cs)) rfl rfl (by omega) (by simp [ha,Node.enc_eq,Br.enc_eq,CFun.enc_eq]) rfl (hlda rfl rfl (lc rfl (lc rfl (lc rfl (lc rfl (lc rfl (lc rfl (lc rfl (ln rfl)))))))) (hal (dc (dc (dc (dc (dc (dc dn rfl) rfl) rfl) rfl) rfl) rfl) (hstl rfl rfl rfl rfl (Nlb rfl) (lc rfl (lc rfl (lc rfl (lc rfl (lc rfl (lc rfl (lc rfl (ln rfl)))))))) (qk (kc rfl (kc rfl (kc rfl (kc rfl kn)))) (kc rfl kn) (sqn (eseq (ereg (qp rfl (hlda rfl rfl (lc rfl (lc rfl (lc rfl (lc rfl (lc rfl (ln rfl)))))) (hcall rfl rfl rfl (H a (Lmg ha) _) ?_))))))))))
 rintro _ _ ⟨rfl,rfl⟩
 refine qb ?_
 rintro (_ | _) h2
 ·refine qp J (qn (kq4 J) kn (ecT J (er (qp J (qn (kq1 J) kn (eret (bqr (sqr ?_))))))))
  exact hR (by rw [hd];simp_all)
 refine qp J (qn (kq4 J) kn (ecF J (eskip (bqn (sqn (ereg (hadd J J (i64w (by omega)) (qp J (qk (kq3 J) kn ?_)))))))))
 exact rn_l2 l H (i + 1) (by omega) hs (fun j h=>hX j (by rw [hd];simp_all)) (fun h=>hR (by rw [hd];simp_all))
termination_by l.length - i
decreasing_by all_goals omega
theorem rnode_c0 (ds:List Decl) (fs:List CFun) (a:Node) {X A:Int → Bool} (hv:vN ds fs a X A=true) (ha:a.args.length ≤ 2 ^ 40) (hb:a.brs.length ≤ 2 ^ 40) (H1:∀ b ∈ a.args,RPure b) (H2:∀ b ∈ a.brs,RPure b.body) (s:Sg):HC p N42_ [.agg a.cs] s (fun r s'=>r=[B (pureN a)] ∧ s'=s):=by
 refine hcf J f42_ J ?_
 simp only [chainOf]
 refine er (hbox (dc dn J) J (lq5 J) (qp J (qn (kq1 J) (kq1 J) (eseq (er (pq2 J (qn (kq2 J) (kq1 J) (eblock (eseq (er (qp J (qb ?_))))))))))))
 rintro (_ | _) h1
 refine qp J (qn (kq3 J) (kq1 J) (ecF J (er (qp J (qb ?_)))))
 rintro (_ | _) h2
 refine qp J (qn (kq3 J) (kq1 J) (ecF J (ereg (qp J (qb ?_)))))
 rintro (_ | _) h3
 refine qp J (qn (kq3 J) (kq1 J) (ecF J (eseq (er (qp J (qb ?_))))))
 rintro (_ | _) h4
 refine qp J (qn (kq3 J) (kq1 J) (ecF J (er (qp J (qb ?_)))))
 rintro (_ | _) h5
 refine qp J (qn (kq3 J) (kq1 J) (ecF J (ereg (qp J (qb ?_)))))
 rintro (_ | _) h6
 refine qp J (qn (kq2 J) (kq1 J) (ecF J (eskip (bqn (sqn (eseq (er (pq4 J (qn (kq4 J) (kq1 J) (eblock ?_))))))))))
 refine rn_l1 a a.args H1 0 (by omega) ha ?_ ?_
 intro j hk
 refine bqx (sqn (eseq (er (pq4 J (qn (kq3 J) kn (eblock ?_))))))
 refine rn_l2 a.brs H2 0 (by omega) hb ?_ ?_
 intro j hk2
 refine bqx (sqn (er (qp J (qn (kq1 J) kn (eret (fqr J ?_))))))
 rotate_left
 intro hk2
 refine bqr (sqr (fqr J ?_))
 rotate_left
 intro hk
 refine bqr (sqr (fqr J ?_))
 rotate_left
 refine qp J (qn (kq2 J) (kq1 J) (ecT J (er (pq3 J (qb ?_)))))
 rintro (_ | _) h7
 refine qn (kq2 J) (kq1 J) (ecF J (eskip (bqn (sqn (eseq (er (pq4 J (qn (kq4 J) (kq1 J) (eblock ?_)))))))))
 refine rn_l1 a a.args H1 0 (by omega) ha ?_ ?_
 intro j hk
 refine bqx (sqn (eseq (er (pq4 J (qn (kq3 J) kn (eblock ?_))))))
 refine rn_l2 a.brs H2 0 (by omega) hb ?_ ?_
 intro j hk2
 refine bqx (sqn (er (qp J (qn (kq1 J) kn (eret (fqr J ?_))))))
 rotate_left
 intro hk2
 refine bqr (sqr (fqr J ?_))
 rotate_left
 intro hk
 refine bqr (sqr (fqr J ?_))
 rotate_left
 refine qn (kq2 J) (kq1 J) (ecT J (er (qp J (qn (kq1 J) kn (eret (bqr (sqr (fqr J ?_))))))))
 rotate_left
 refine qp J (qn (kq3 J) (kq1 J) (ecT J (eskip (sqn (ecT J (er (pq3 J (qb ?_))))))))
 rintro (_ | _) h8
 refine qn (kq2 J) (kq1 J) (ecF J (eskip (bqn (sqn (eseq (er (pq4 J (qn (kq4 J) (kq1 J) (eblock ?_)))))))))
 refine rn_l1 a a.args H1 0 (by omega) ha ?_ ?_
 intro j hk
 refine bqx (sqn (eseq (er (pq4 J (qn (kq3 J) kn (eblock ?_))))))
 refine rn_l2 a.brs H2 0 (by omega) hb ?_ ?_
 intro j hk2
 refine bqx (sqn (er (qp J (qn (kq1 J) kn (eret (fqr J ?_))))))
 rotate_left
 intro hk2
 refine bqr (sqr (fqr J ?_))
 rotate_left
 intro hk
 refine bqr (sqr (fqr J ?_))
 rotate_left
 refine qn (kq2 J) (kq1 J) (ecT J (er (qp J (qn (kq1 J) kn (eret (bqr (sqr (fqr J ?_))))))))
 rotate_left
 refine qp J (qn (kq3 J) (kq1 J) (ecT J (eskip (sqn (ecT J (er (pq3 J (qb ?_))))))))
 rintro (_ | _) h9
 refine qn (kq2 J) (kq1 J) (ecF J (eskip (bqn (sqn (eseq (er (pq4 J (qn (kq4 J) (kq1 J) (eblock ?_)))))))))
 refine rn_l1 a a.args H1 0 (by omega) ha ?_ ?_
 intro j hk
 refine bqx (sqn (eseq (er (pq4 J (qn (kq3 J) kn (eblock ?_))))))
 refine rn_l2 a.brs H2 0 (by omega) hb ?_ ?_
 intro j hk2
 refine bqx (sqn (er (qp J (qn (kq1 J) kn (eret (fqr J ?_))))))
 rotate_left
 intro hk2
 refine bqr (sqr (fqr J ?_))
 rotate_left
 intro hk
 refine bqr (sqr (fqr J ?_))
 rotate_left
 refine qn (kq2 J) (kq1 J) (ecT J (er (qp J (qn (kq1 J) kn (eret (bqr (sqr (fqr J ?_))))))))
 rotate_left
 refine qp J (qn (kq3 J) (kq1 J) (ecT J (er (qp J (qn (kq1 J) kn (eret (bqr (sqr (fqr J ?_)))))))))
 rotate_left
 refine qp J (qn (kq3 J) (kq1 J) (ecT J (eskip (sqn (ecT J (er (qp J (qn (kq1 J) kn (eret (bqr (sqr (fqr J ?_))))))))))))
 rotate_left
 refine qp J (qn (kq3 J) (kq1 J) (ecT J (eskip (sqn (ecT J (er (qp J (qn (kq1 J) kn (eret (bqr (sqr (fqr J ?_))))))))))))
 rotate_left
 all_goals
  refine ⟨congrArg (fun x=>[B x]) ?_,J⟩
  first
  | (rw [rPure_eq hv (by simp_all) (by simp_all)];simp_all [-List.all_eq_true,-List.all_eq_false];done)
  | (rw [pureN_eq];simp_all;done)
theorem rnode_c (ds:List Decl) (fs:List CFun) (a:Node):∀ {X A:Int → Bool},vN ds fs a X A=true → a.sz ≤ 2 ^ 40 → RPure a:=by
 induction a using Node.ind with
 | h a ih1 ih2 =>
   intro X A hv hz s
   obtain ⟨p1,p2,_⟩:=vN_parts hv
   exact rnode_c0 ds fs a hv (by have:=a.sz_args;omega) (by have:=a.sz_brs;omega) (fun b hb=>by obtain ⟨_,_,h⟩:=p1 b hb;exact ih1 b hb h (by have:=Node.sz_arg hb;omega)) (fun b hb=>by obtain ⟨_,_,h⟩:=p2 b hb;exact ih2 b hb h (by have:=Node.sz_br hb;have:=b.sz_body;omega)) s
theorem rP_l3 (c:Core) (l:List Arg) (i:Nat) (hi:i ≤ l.length) (hs:l.length ≤ 2 ^ 40) {x14 x15 x16 x21 x22 x23:AV} {n:Nat} {v:Nat → Bool} {D:List (Nat × List AV)} {S:Sg} {Q:Ex → Fr → Prop}
 (hX:∀ j,typedA (l.drop i)=true → Q (.exit 4) ⟨upd (uv (uv (uv (uv (uv (uv (uv (uv (uv (uv e0 31 (B false)) 30 (I j)) 29 (I (l.map Arg.enc).length)) 28 (.slice .none 2 (l.map Arg.enc))) 23 (x23)) 22 (x22)) 21 (x21)) 16 (x16)) 15 (x15)) 14 (x14)) 1 (some (.loc 1 0)),upd ((fun _=>none)) 1 (some (Core.cs c)),n,v,D,S⟩) (hR:typedA (l.drop i)=false → Q .ret ⟨uv e0 2 (B false),(fun _=>none),n,v,D,S⟩):EX (callL p) (.loop F12_l3) ⟨upd (uv (uv (uv (uv (uv (uv (uv (uv (uv e0 30 (I i)) 29 (I (l.map Arg.enc).length)) 28 (.slice .none 2 (l.map Arg.enc))) 23 (x23)) 22 (x22)) 21 (x21)) 16 (x16)) 15 (x15)) 14 (x14)) 1 (some (.loc 1 0)),upd ((fun _=>none)) 1 (some (Core.cs c)),n,v,D,S⟩ Q:=by
 refine eloop (er (qp J (qb ?_)))
 rintro (_ | _) h1
 ·refine qn (kq11 J) (kq1 J) (eseq (ecF J (eexit (sqx ?_))))
  exact hX _ (by rw [List.drop_eq_nil_of_le (by simp at h1 ⊢;omega)];rfl)
 refine qn (kq11 J) (kq1 J) (eseq (ecT J (eskip (sqn (eseq (eblock (er ?_)))))))
 have hlt:i < l.length:=by simpa using h1
 obtain ⟨a,ha⟩:=get_of_lt hlt
 have hd:=drop_cons ha
 refine hia (y:=.agg [I a.ty,B a.co]) rfl rfl (by omega) (by simp [ha,Arg.enc]) rfl (hlda rfl rfl (lc rfl (lc rfl (ln rfl))) (hal (dc (dc (dc (dc (dc (dc (dc (dc (dc (dc (dc (dc (dc dn rfl) rfl) rfl) rfl) rfl) rfl) rfl) rfl) rfl) rfl) rfl) rfl) rfl) (hstl rfl rfl rfl rfl (Nlb rfl) (lc rfl (lc rfl (ln rfl))) (qk (kc rfl (kc rfl (kc rfl (kc rfl (kc rfl (kc rfl (kc rfl (kc rfl (kc rfl (kc rfl (kc rfl kn))))))))))) (kc rfl (kc rfl kn)) (sqn (eseq (ereg (qp rfl (qp rfl (qp rfl (qb ?_)))))))))))
 rintro (_ | _) h2
 ·refine qn (kq11 J) (kq1 J) (ecF J (eskip (bqn (sqn (ereg (hadd J J (i64w (by omega)) (qp J (qk (kq10 J) (kq1 J) ?_))))))))
  exact rP_l3 c l (i + 1) (by omega) hs (fun j h=>hX j (by rw [hd];simp_all [typedA])) (fun h=>hR (by rw [hd];simp_all [typedA]))
 refine qn (kq11 J) (kq1 J) (ecT J (er (qp J (qn (kq1 J) kn (eret (bqr (sqr ?_)))))))
 exact hR (by rw [hd];simp_all [typedA])
termination_by l.length - i
decreasing_by all_goals omega
theorem rP_l5 (c:Core) (e:CFun) (l:List Arg) (i:Nat) (hi:i ≤ l.length) (hs:l.length ≤ 2 ^ 40) {x41 x42 x43:AV} {n:Nat} {v:Nat → Bool} {D:List (Nat × List AV)} {S:Sg} {Q:Ex → Fr → Prop}
 (hX:∀ j,typedA (l.drop i)=true → Q (.exit 8) ⟨upd (upd (uv (uv (uv (uv (uv (uv (uv e0 51 (B false)) 50 (I j)) 49 (I (l.map Arg.enc).length)) 48 (.slice .none 2 (l.map Arg.enc))) 43 (x43)) 42 (x42)) 41 (x41)) 10 (some (.loc 10 0))) 1 (some (.loc 1 0)),upd (upd ((fun _=>none)) 10 (some (Str e.name :: encArgs e.params :: ints e.vars :: e.body.cs))) 1 (some (Core.cs c)),n,v,D,S⟩) (hR:typedA (l.drop i)=false → Q .ret ⟨uv e0 2 (B false),(fun _=>none),n,v,D,S⟩):EX (callL p) (.loop F12_l5) ⟨upd (upd (uv (uv (uv (uv (uv (uv e0 50 (I i)) 49 (I (l.map Arg.enc).length)) 48 (.slice .none 2 (l.map Arg.enc))) 43 (x43)) 42 (x42)) 41 (x41)) 10 (some (.loc 10 0))) 1 (some (.loc 1 0)),upd (upd ((fun _=>none)) 10 (some (Str e.name :: encArgs e.params :: ints e.vars :: e.body.cs))) 1 (some (Core.cs c)),n,v,D,S⟩ Q:=by
 refine eloop (er (qp J (qb ?_)))
 rintro (_ | _) h1
 ·refine qn (kq9 J) (kq2 J) (eseq (ecF J (eexit (sqx ?_))))
  exact hX _ (by rw [List.drop_eq_nil_of_le (by simp at h1 ⊢;omega)];rfl)
 refine qn (kq9 J) (kq2 J) (eseq (ecT J (eskip (sqn (eseq (eblock (er ?_)))))))
 have hlt:i < l.length:=by simpa using h1
 obtain ⟨a,ha⟩:=get_of_lt hlt
 have hd:=drop_cons ha
 refine hia (y:=.agg [I a.ty,B a.co]) rfl rfl (by omega) (by simp [ha,Arg.enc]) rfl (hlda rfl rfl (lc rfl (lc rfl (ln rfl))) (hal (dc (dc (dc (dc (dc (dc (dc (dc (dc (dc (dc dn rfl) rfl) rfl) rfl) rfl) rfl) rfl) rfl) rfl) rfl) rfl) (hstl rfl rfl rfl rfl (Nlb rfl) (lc rfl (lc rfl (ln rfl))) (qk (kc rfl (kc rfl (kc rfl (kc rfl (kc rfl (kc rfl (kc rfl (kc rfl (kc rfl kn))))))))) (kc rfl (kc rfl (kc rfl kn))) (sqn (eseq (ereg (qp rfl (qp rfl (qp rfl (qb ?_)))))))))))
 rintro (_ | _) h2
 ·refine qn (kq9 J) (kq2 J) (ecF J (eskip (bqn (sqn (ereg (hadd J J (i64w (by omega)) (qp J (qk (kq8 J) (kq2 J) ?_))))))))
  exact rP_l5 c e l (i + 1) (by omega) hs (fun j h=>hX j (by rw [hd];simp_all [typedA])) (fun h=>hR (by rw [hd];simp_all [typedA]))
 refine qn (kq9 J) (kq2 J) (ecT J (er (qp J (qn (kq1 J) kn (eret (bqr (sqr ?_)))))))
 exact hR (by rw [hd];simp_all [typedA])
termination_by l.length - i
decreasing_by all_goals omega
theorem rP_l2 (c:Core) (l:List Xtor) (hx:∀ x ∈ l,x.args.length ≤ 2 ^ 40) (i:Nat) (hi:i ≤ l.length) (hs:l.length ≤ 2 ^ 40) {x14 x15 x16:AV} {n:Nat} {v:Nat → Bool} {D:List (Nat × List AV)} {S:Sg} {Q:Ex → Fr → Prop}
 (hX:∀ j,xtorsT (l.drop i)=true → Q (.exit 2) ⟨upd (uv (uv (uv (uv (uv (uv (uv e0 24 (B false)) 23 (I j)) 22 (I (l.map Xtor.enc).length)) 21 (.slice .none 2 (l.map Xtor.enc))) 16 (x16)) 15 (x15)) 14 (x14)) 1 (some (.loc 1 0)),upd ((fun _=>none)) 1 (some (Core.cs c)),n,v,D,S⟩) (hR:xtorsT (l.drop i)=false → Q .ret ⟨uv e0 2 (B false),(fun _=>none),n,v,D,S⟩):EX (callL p) (.loop F12_l2) ⟨upd (uv (uv (uv (uv (uv (uv e0 23 (I i)) 22 (I (l.map Xtor.enc).length)) 21 (.slice .none 2 (l.map Xtor.enc))) 16 (x16)) 15 (x15)) 14 (x14)) 1 (some (.loc 1 0)),upd ((fun _=>none)) 1 (some (Core.cs c)),n,v,D,S⟩ Q:=by
 refine eloop (er (qp J (qb ?_)))
 rintro (_ | _) h1
 ·refine qn (kq8 J) (kq1 J) (eseq (ecF J (eexit (sqx ?_))))
  exact hX _ (by rw [List.drop_eq_nil_of_le (by simp at h1 ⊢;omega)];rfl)
 refine qn (kq8 J) (kq1 J) (eseq (ecT J (eskip (sqn (eseq (eblock (er ?_)))))))
 have hlt:i < l.length:=by simpa using h1
 obtain ⟨a,ha⟩:=get_of_lt hlt
 have hd:=drop_cons ha
 refine hia (y:=Xtor.enc a) rfl rfl (by omega) (by simp [ha]) rfl (hlda rfl rfl (lc rfl (lc rfl (ln rfl))) (hal (dc (dc (dc (dc (dc (dc (dc (dc (dc (dc dn rfl) rfl) rfl) rfl) rfl) rfl) rfl) rfl) rfl) rfl) (hstl rfl rfl rfl rfl (Nlb rfl) (lc rfl (lc rfl (ln rfl))) (qk (kc rfl (kc rfl (kc rfl (kc rfl (kc rfl (kc rfl (kc rfl (kc rfl kn)))))))) (kc rfl (kc rfl kn)) (sqn (eseq (ereg (qp rfl (qp rfl (qp rfl (qp rfl (qk (kc rfl (kc rfl (kc rfl (kc rfl (kc rfl (kc rfl (kc rfl (kc rfl (kc rfl (kc rfl kn)))))))))) (kc rfl kn) (sqn (eblock ?_))))))))))))))
 refine rP_l3 c a.args 0 (by omega) (hx a (Lmg ha)) ?_ ?_
 ·intro j ha2
  refine bqx (bqn (sqn (ereg (hadd J J (i64w (by omega)) (qp J (qk (kq7 J) (kq1 J) ?_))))))
  exact rP_l2 c l hx (i + 1) (by omega) hs (fun j h=>hX j (by rw [hd];simp_all [xtorsT])) (fun h=>hR (by rw [hd];simp_all [xtorsT]))
 intro ha2
 refine bqr (bqr (sqr ?_))
 exact hR (by rw [hd];simp_all [xtorsT])
termination_by l.length - i
decreasing_by all_goals omega
theorem rP_l1 (c:Core) (l:List Decl) (hx:∀ d ∈ l,∀ x ∈ d.xtors,x.args.length ≤ 2 ^ 40) (hxl:∀ d ∈ l,d.xtors.length ≤ 2 ^ 40) (i:Nat) (hi:i ≤ l.length) (hs:l.length ≤ 2 ^ 40) {n:Nat} {v:Nat → Bool} {D:List (Nat × List AV)} {S:Sg} {Q:Ex → Fr → Prop}
 (hX:∀ j,((l.drop i).all fun d=>xtorsT d.xtors)=true → Q (.exit 0) ⟨upd (uv (uv (uv (uv e0 17 (B false)) 16 (I j)) 15 (I (l.map Decl.enc).length)) 14 (.slice .none 3 (l.map Decl.enc))) 1 (some (.loc 1 0)),upd ((fun _=>none)) 1 (some (Core.cs c)),n,v,D,S⟩) (hR:((l.drop i).all fun d=>xtorsT d.xtors)=false → Q .ret ⟨uv e0 2 (B false),(fun _=>none),n,v,D,S⟩):EX (callL p) (.loop F12_l1) ⟨upd (uv (uv (uv e0 16 (I i)) 15 (I (l.map Decl.enc).length)) 14 (.slice .none 3 (l.map Decl.enc))) 1 (some (.loc 1 0)),upd ((fun _=>none)) 1 (some (Core.cs c)),n,v,D,S⟩ Q:=by
 refine eloop (er (qp J (qb ?_)))
 rintro (_ | _) h1
 ·refine qn (kq5 J) (kq1 J) (eseq (ecF J (eexit (sqx ?_))))
  exact hX _ (by rw [List.drop_eq_nil_of_le (by simp at h1 ⊢;omega)];rfl)
 refine qn (kq5 J) (kq1 J) (eseq (ecT J (eskip (sqn (eseq (eblock (er ?_)))))))
 have hlt:i < l.length:=by simpa using h1
 obtain ⟨a,ha⟩:=get_of_lt hlt
 have hd:=drop_cons ha
 refine hia (y:=Decl.enc a) rfl rfl (by omega) (by simp [ha]) rfl (hlda rfl rfl (lc rfl (lc rfl (lc rfl (ln rfl)))) (hal (dc (dc (dc (dc (dc (dc (dc dn rfl) rfl) rfl) rfl) rfl) rfl) rfl) (hstl rfl rfl rfl rfl (Nlb rfl) (lc rfl (lc rfl (lc rfl (ln rfl)))) (qk (kc rfl (kc rfl (kc rfl (kc rfl (kc rfl kn))))) (kc rfl (kc rfl kn)) (sqn (eseq (ereg (qp rfl (qp rfl (qp rfl (qp rfl (qk (kc rfl (kc rfl (kc rfl (kc rfl (kc rfl (kc rfl (kc rfl kn))))))) (kc rfl kn) (sqn (eblock ?_))))))))))))))
 refine rP_l2 c a.xtors (hx a (Lmg ha)) 0 (by omega) (hxl a (Lmg ha)) ?_ ?_
 ·intro j ha2
  refine bqx (bqn (sqn (ereg (hadd J J (i64w (by omega)) (qp J (qk (kq4 J) (kq1 J) ?_))))))
  exact rP_l1 c l hx hxl (i + 1) (by omega) hs (fun j h=>hX j (by rw [hd];simp_all)) (fun h=>hR (by rw [hd];simp_all))
 intro ha2
 refine bqr (bqr (sqr ?_))
 exact hR (by rw [hd];simp_all)
termination_by l.length - i
decreasing_by all_goals omega
theorem rP_l4 (c:Core) (l:List CFun) (hp:∀ g ∈ l,g.params.length ≤ 2 ^ 40) (H:∀ g ∈ l,RPure g.body) (i:Nat) (hi:i ≤ l.length) (hs:l.length ≤ 2 ^ 40) {n:Nat} {v:Nat → Bool} {D:List (Nat × List AV)} {S:Sg} {Q:Ex → Fr → Prop}
 (hX:∀ j,(l.drop i).all funP=true → Q (.exit 6) ⟨upd (uv (uv (uv (uv e0 44 (B false)) 43 (I j)) 42 (I (l.map CFun.enc).length)) 41 (.slice .none 8 (l.map CFun.enc))) 1 (some (.loc 1 0)),upd ((fun _=>none)) 1 (some (Core.cs c)),n,v,D,S⟩) (hR:(l.drop i).all funP=false → Q .ret ⟨uv e0 2 (B false),(fun _=>none),n,v,D,S⟩):EX (callL p) (.loop F12_l4) ⟨upd (uv (uv (uv e0 43 (I i)) 42 (I (l.map CFun.enc).length)) 41 (.slice .none 8 (l.map CFun.enc))) 1 (some (.loc 1 0)),upd ((fun _=>none)) 1 (some (Core.cs c)),n,v,D,S⟩ Q:=by
 refine eloop (er (qp J (qb ?_)))
 rintro (_ | _) h1
 ·refine qn (kq5 J) (kq1 J) (eseq (ecF J (eexit (sqx ?_))))
  exact hX _ (by rw [List.drop_eq_nil_of_le (by simp at h1 ⊢;omega)];rfl)
 refine qn (kq5 J) (kq1 J) (eseq (ecT J (eskip (sqn (eseq (eblock (er ?_)))))))
 have hlt:i < l.length:=by simpa using h1
 obtain ⟨a,ha⟩:=get_of_lt hlt
 have hd:=drop_cons ha
 refine hia (y:=.agg (Str a.name :: encArgs a.params :: ints a.vars :: a.body.cs)) rfl rfl (by omega) (by simp [ha,Node.enc_eq,Br.enc_eq,CFun.enc_eq]) rfl (hlda rfl rfl (lc rfl (lc rfl (lc rfl (lc rfl (lc rfl (lc rfl (lc rfl (lc rfl (ln rfl))))))))) (hal (dc (dc (dc (dc (dc (dc (dc dn rfl) rfl) rfl) rfl) rfl) rfl) rfl) (hstl rfl rfl rfl rfl (Nlb rfl) (lc rfl (lc rfl (lc rfl (lc rfl (lc rfl (lc rfl (lc rfl (lc rfl (ln rfl))))))))) (qk (kc rfl (kc rfl (kc rfl (kc rfl (kc rfl kn))))) (kc rfl (kc rfl kn)) (sqn (eseq (eseq (ereg (qp rfl (qp rfl (qp rfl (qp rfl (qk (kc rfl (kc rfl (kc rfl (kc rfl (kc rfl (kc rfl (kc rfl (kc rfl kn)))))))) (kc rfl (kc rfl kn)) (sqn (eblock ?_)))))))))))))))
 refine rP_l5 c a a.params 0 (by omega) (hp a (Lmg ha)) ?_ ?_
 ·intro j ha2
  refine bqx (sqn (er (qp J (hlda J J (lq5 J) (hcall J J J (H a (Lmg ha) _) ?_)))))
  rintro _ _ ⟨rfl,rfl⟩
  refine qb ?_
  rintro (_ | _) h2
  ·refine qp J (qn (kq5 J) (kq1 J) (ecT J (er (qp J (qn (kq1 J) kn (eret (bqr (sqr ?_))))))))
   exact hR (by rw [hd];simp_all [funP])
  refine qp J (qn (kq5 J) (kq1 J) (ecF J (eskip (bqn (sqn (ereg (hadd J J (i64w (by omega)) (qp J (qk (kq4 J) (kq1 J) ?_)))))))))
  exact rP_l4 c l hp H (i + 1) (by omega) hs (fun j h=>hX j (by rw [hd];simp_all [funP])) (fun h=>hR (by rw [hd];simp_all [funP]))
 intro ha2
 refine bqr (sqr (bqr (sqr ?_)))
 exact hR (by rw [hd];simp_all [funP])
termination_by l.length - i
decreasing_by all_goals omega
theorem rPure_c0 (s:Sg) (c:Core) (hc:CoreSz c) (hxl:∀ d ∈ c.decls,d.xtors.length ≤ 2 ^ 40) (hfl:c.funs.length ≤ 2 ^ 40) (h1:1 ≤ c.funs.length) (H:∀ g ∈ c.funs,RPure g.body):HC p N12_ [.agg (Core.cs c)] s (fun r s'=>r=[B (isPureC c)] ∧ s'=s):=by
 refine hcf J f12_ J ?_
 simp only [chainOf]
 refine er (hbox (dc dn J) J (lq2 J) (qp J (qn (kq1 J) (kq1 J) (eseq (er (pq4 J (qn (kq4 J) (kq1 J) (eblock ?_))))))))
 refine rP_l1 c c.decls hc.xa hxl 0 (by omega) hc.dl ?_ ?_
 intro j hk
 refine bqx (sqn (eseq (er (pq4 J (qn (kq4 J) (kq1 J) (eblock ?_))))))
 refine rP_l4 c c.funs hc.ga H 0 (by omega) hfl ?_ ?_
 intro q hq
 refine bqx (sqn (er (pq2 J ?_)))
 obtain ⟨g0,hg0⟩:=get_of_lt (l:=c.funs) (i:=0) (by omega)
 refine hia (y:=.agg (Str g0.name :: encArgs g0.params :: ints g0.vars :: g0.body.cs)) rfl rfl (by decide) (by simp [hg0,CFun.enc_eq]) rfl (qp rfl (qp rfl (qp rfl (qp rfl (qp rfl (qk (kc rfl kn) kn (sqn (eret (fqr rfl ?_)))))))))
 rotate_left
 intro hq
 refine bqr (sqr (fqr J ?_))
 rotate_left
 intro hk
 refine bqr (sqr (fqr J ?_))
 rotate_left
 all_goals
  refine ⟨congrArg (fun x=>[B x]) ?_,J⟩
  simp_all [isPureC,-List.all_eq_true,-List.all_eq_false] <;> omega
theorem rPure_c (s:Sg) (c:Core) (z:SzD c) (hok:coreOk c=true):HC p N12_ [.agg (Core.cs c)] s (fun r s'=>r=[B (isPureC c)] ∧ s'=s):=by
 refine rPure_c0 s c z.hc (fun d hd=>Nat.le_trans (z.xl d hd) (by decide)) (Nat.le_trans z.fl (by decide)) ?_ fun g hg=>?_
 ·have h:=hok
  unfold coreOk headsOk at h
  simp only [Bae,Dte] at h
  omega
 have h:=(core_body hok g hg).2.2.2
 exact rnode_c _ _ _ h (Nat.le_trans (z.bz g hg) (by decide))
end Go.Sim.Kd
namespace Go.Sim.Kd
open Go Go.Sim
inductive WC
 | p (a:AV)
 | w (t sz len:Nat) (cs:List AV)
def WC.av:WC → AV
 | .p a=>a
 | .w t sz len _=>.ms t 0 len sz
def WC.fz:WC → AV
 | .p a=>a
 | .w _ sz len cs=>.slice .none sz (unfl sz len cs)
def WC.tk:WC → List Nat
 | .p _=>[]
 | .w t _ _ _=>[t]
structure Pl (a:AV):Prop where
 nt:a.nt=true
 fz:∀ n S,frzD n S a=some (a,S)
def WC.ok (S:Sg):WC → Prop
 | .p a=>Pl a
 | .w t sz len cs=>S.mu t=some cs ∧ cs.length=len * sz ∧ 0 < sz ∧ AV.nts cs=true
def toks (ws:List WC):List Nat:=ws.flatMap WC.tk
structure WOK (b:Nat) (S:Sg) (ws:List WC):Prop where
 ok:∀ w ∈ ws,w.ok S
 nd:(toks ws).Nodup
 tk:∀ t ∈ toks ws,b ≤ t ∧ t < S.mn
theorem Pl.I (x:Int):Pl (I x):=⟨rfl,fun n S=>by cases n <;> simp only [frzD]⟩
theorem Pl.B (x:Bool):Pl (B x):=⟨rfl,fun n S=>by cases n <;> simp only [frzD]⟩
theorem Pl.Str (x:ByteArray):Pl (Str x):=⟨rfl,fun n S=>by cases n <;> simp only [frzD]⟩
theorem Pl.SL (sz:Nat) (x:List AV):Pl (SL sz x):=⟨rfl,fun n S=>by cases n <;> simp only [frzD]⟩
theorem WC.ok_mono {S S':Sg} {w:WC} (h:w.ok S) (hm:∀ t ∈ w.tk,S'.mu t=S.mu t):w.ok S':=by
 cases w with
 | p a=>exact h
 | w t sz len cs=>exact ⟨(hm t (by simp [WC.tk])).trans h.1,h.2⟩
theorem mem_toks {ws:List WC} {w:WC} (h:w ∈ ws) {t:Nat} (ht:t ∈ w.tk):t ∈ toks ws:=List.mem_flatMap.2 ⟨w,h,ht⟩
theorem WOK.mono {b:Nat} {S S':Sg} {ws:List WC} (h:WOK b S ws) (hm:∀ t,b ≤ t → t < S.mn → S'.mu t=S.mu t) (hn:S.mn ≤ S'.mn):WOK b S' ws :=
 ⟨fun w hw=>WC.ok_mono (h.ok w hw) fun t ht=>hm t (h.tk t (mem_toks hw ht)).1 (h.tk t (mem_toks hw ht)).2,h.nd,fun t ht=>⟨(h.tk t ht).1,Nat.lt_of_lt_of_le (h.tk t ht).2 hn⟩⟩
theorem WOK.nil {b:Nat} {S:Sg}:WOK b S []:=⟨fun _ h=>(nomatch h),List.nodup_nil,fun _ h=>(nomatch h)⟩
theorem WOK.tail {b:Nat} {S:Sg} {w:WC} {ws:List WC} (h:WOK b S (w :: ws)):WOK b S ws:=by
 have e:toks (w :: ws)=w.tk ++ toks ws:=rfl
 refine ⟨fun x hx=>h.ok x (by simp [hx]),?_,fun t ht=>h.tk t (by rw [e];simp [ht])⟩
 have:=h.nd
 rw [e,List.nodup_append] at this
 exact this.2.1
theorem WOK.app {b b1:Nat} {S:Sg} {ws r:List WC} (h:WOK b S ws) (k:WOK b1 S r) (hb:b ≤ b1) (hd:∀ t ∈ toks ws,t < b1):WOK b S (ws ++ r):=by
 have e:toks (ws ++ r)=toks ws ++ toks r:=List.flatMap_append
 refine ⟨fun w hw=>?_,?_,fun t ht=>?_⟩
 ·rcases List.mem_append.1 hw with hw | hw
  ·exact h.ok w hw
  exact k.ok w hw
 ·rw [e,List.nodup_append]
  refine ⟨h.nd,k.nd,fun t ht u hu e=>?_⟩
  have h1:=hd t ht
  have h2:=(k.tk u hu).1
  omega
 rw [e] at ht
 rcases List.mem_append.1 ht with ht | ht
 ·exact h.tk t ht
 exact ⟨Nat.le_trans hb (k.tk t ht).1,(k.tk t ht).2⟩
theorem WOK.plain {b:Nat} {S:Sg} {as:List AV} (h:∀ a ∈ as,Pl a):WOK b S (as.map .p):=by
 have e:toks (as.map .p)=[]:=by
  simp [toks,WC.tk,List.flatMap_map]
 refine ⟨fun w hw=>?_,by rw [e];exact List.nodup_nil,fun t ht=>by rw [e] at ht;cases ht⟩
 obtain ⟨a,ha,rfl⟩:=List.mem_map.1 hw
 exact h a ha
theorem frz_ws:∀ (ws:List WC) {b:Nat} {S:Sg},WOK b S ws → ∃ m,frzDL (frzD 1) S (ws.map WC.av)=some (ws.map WC.fz,{ S with mu:=m }) ∧ ∀ k,k ∉ toks ws → m k=S.mu k
 | [],b,S,_=>⟨S.mu,rfl,fun _ _=>rfl⟩
 | .p a :: ws,b,S,h=>by
   obtain ⟨m,h1,h2⟩:=frz_ws ws h.tail
   refine ⟨m,?_,fun k hk=>h2 k hk⟩
   have h3:Pl a:=h.ok (.p a) (by simp)
   simp only [List.map_cons,frzDL,WC.av,WC.fz,h3.fz,Obs,h1]
 | .w t sz len cs :: ws,b,S,h=>by
   obtain ⟨h3,h4,h5,h6⟩:=h.ok (.w t sz len cs) (by simp)
   have hf:=frz_ms (k:=0) h5 h3 (frzDL0 S cs) h6 h4
   have hnd:t ∉ toks ws:=by
    have:=h.nd
    rw [show toks (WC.w t sz len cs :: ws)=t :: toks ws from rfl,List.nodup_cons] at this
    exact this.1
   have hu:∀ k,k ≠ t → upd (upd S.mu t (some cs)) t none k=S.mu k:=fun k hk=>by rw [upd_ne _ _ hk,upd_ne _ _ hk]
   have hW:WOK b { S with mu:=upd (upd S.mu t (some cs)) t none } ws :=
    ⟨fun w hw=>WC.ok_mono (h.tail.ok w hw) fun k hk=>hu k fun e=>hnd (by rw [← e];exact mem_toks hw hk),h.tail.nd,h.tail.tk⟩
   obtain ⟨m,h1,h2⟩:=frz_ws ws hW
   refine ⟨m,?_,fun k hk=>?_⟩
   ·simp only [List.map_cons,frzDL,WC.av,WC.fz,hf,Obs,h1]
   rw [show toks (WC.w t sz len cs :: ws)=t :: toks ws from rfl,List.mem_cons,not_or] at hk
   exact (h2 k hk.2).trans (hu k hk.1)
def AccD (sz b:Nat) (out:AV) (n:Nat) (ws:List WC) (S:Sg):Prop :=
 ws.length=n * sz ∧ WOK b S ws ∧ ((n=0 ∧ out=.slice .full sz []) ∨ n ≠ 0 ∧ ∃ g,out=.ms g 0 n sz ∧ S.mu g=some (ws.map WC.av) ∧ b ≤ g ∧ g < S.mn ∧ g ∉ toks ws)
theorem AccD.mono {sz b n:Nat} {out:AV} {ws:List WC} {S S':Sg} (h:AccD sz b out n ws S) (hm:∀ t,b ≤ t → t < S.mn → S'.mu t=S.mu t) (hn:S.mn ≤ S'.mn):AccD sz b out n ws S':=by
 refine ⟨h.1,h.2.1.mono hm hn,?_⟩
 rcases h.2.2 with h | ⟨hn0,g,h1,h2,h3,h4,h5⟩
 ·exact .inl h
 exact .inr ⟨hn0,g,h1,(hm g h3 h4).trans h2,h3,Nat.lt_of_lt_of_le h4 hn,h5⟩
theorem AccD.ext {sz b n:Nat} {out:AV} {ws:List WC} {S S':Sg} (h:AccD sz b out n ws S) (e:ExtM S S'):AccD sz b out n ws S':=h.mono (fun t _ ht=>e.mu t ht) e.mn
theorem AccD.nil {sz b:Nat} {S:Sg}:AccD sz b (.slice .full sz []) 0 [] S:=⟨by simp,.nil,.inl ⟨rfl,rfl⟩⟩
theorem AccD.c1 {sz b n:Nat} {out:AV} {ws:List WC} {S:Sg} (h:AccD sz b out n ws S):out.cells=[out]:=by
 rcases h.2.2 with ⟨_,rfl⟩ | ⟨_,g,rfl,_⟩ <;> rfl
theorem AccD.nt {sz b n:Nat} {out:AV} {ws:List WC} {S:Sg} (h:AccD sz b out n ws S):out.nt=true:=by
 rcases h.2.2 with ⟨_,rfl⟩ | ⟨_,g,rfl,_⟩ <;> rfl
theorem ExtM.muX {S0 S:Sg} {m:Nat → Option (List AV)} (hE:ExtM S0 S) (h:∀ k,k < S0.mn → m k=S.mu k):ExtM S0 { S with mu:=m } :=
 ⟨⟨hE.e.nx,hE.e.ob,hE.e.gn,hE.e.gl,hE.e.Q⟩,fun k hk=>(h k hk).trans (hE.mu k hk),hE.mn⟩
theorem appm_d {S0 S1 S:Sg} {sz by_ n:Nat} {out v:AV} {ws r:List WC} (hA:AccD sz S0.mn out n ws S1) (hE0:ExtM S0 S1) (hE:ExtM S1 S) (hr:WOK S1.mn S r) (hl:r.length=sz) (hby:(n + 1) * by_ ≤ 2 ^ 47) (hv:v.cells=r.map WC.av) :
 ∃ out' S',wopOf (.appm sz by_) S [out,.slice .full sz [v]]=some (out',S') ∧ AccD sz S0.mn out' (n + 1) (ws ++ r) S' ∧ ExtM S0 S':=by
 have hsrc:srcOf sz S (.slice .full sz [v])=some (1,r.map WC.av):=by
  simp only [srcOf,if_true,List.length_cons,List.length_nil,flat,List.flatMap_cons,List.flatMap_nil,hv,List.append_nil]
 have hA2:=hA.ext hE
 have hW:WOK S0.mn S (ws ++ r):=hA2.2.1.app hr hE0.mn fun t ht=>(hA.2.1.tk t ht).2
 have hlen:(ws ++ r).length=(n + 1) * sz:=by rw [List.length_append,hA.1,hl,Nat.succ_mul]
 have hEE:=hE0.trans hE
 have et:toks (ws ++ r)=toks ws ++ toks r:=List.flatMap_append
 have hne:S.mn ∉ toks (ws ++ r):=fun h=>by have:=(hW.tk _ h).2;omega
 rcases hA.2.2 with ⟨rfl,rfl⟩ | ⟨_,g,rfl,h2,h3,h4,h5⟩
 ·have hws:ws=[]:=Lnl (by rw [hA.1,Nat.zero_mul])
  subst hws
  refine ⟨.ms S.mn 0 1 sz,{ S with mu:=upd S.mu S.mn (some (r.map WC.av)),mn:=S.mn + 1 },?_,⟨hlen,?_,.inr ⟨Nat.succ_ne_zero _,S.mn,rfl,?_,hEE.mn,Nat.lt_succ_self _,hne⟩⟩,⟨⟨hEE.e.nx,hEE.e.ob,hEE.e.gn,hEE.e.gl,hEE.e.Q⟩,fun k hk=>?_,Nat.le_succ_of_le hEE.mn⟩⟩
  ·simp only [wopOf,appmOf,if_true,hsrc,Obs]
   rw [if_pos (by omega),if_neg (by decide)]
  ·exact hW.mono (fun t _ ht=>upd_ne _ _ (by omega)) (Nat.le_succ _)
  ·show upd S.mu S.mn _ S.mn=_
   rw [upd_same]
   rfl
  show upd S.mu S.mn _ k=_
  rw [upd_ne _ _ (by have:=hEE.mn;omega)]
  exact hEE.mu k hk
 have hgs:S.mu g=some (ws.map WC.av):=(hE.mu g h4).trans h2
 have hgr:g ∉ toks (ws ++ r):=by
  rw [et,List.mem_append,not_or]
  exact ⟨h5,fun h=>by have:=(hr.tk g h).1;omega⟩
 have hgm:g < S.mn:=Nat.lt_of_lt_of_le h4 hE.mn
 refine ⟨.ms S.mn 0 (n + 1) sz,{ S with mu:=upd (upd S.mu g none) S.mn (some (ws.map WC.av ++ r.map WC.av)),mn:=S.mn + 1 },?_,⟨hlen,?_,.inr ⟨Nat.succ_ne_zero _,S.mn,rfl,?_,hEE.mn,Nat.lt_succ_self _,hne⟩⟩,⟨⟨hEE.e.nx,hEE.e.ob,hEE.e.gn,hEE.e.gl,hEE.e.Q⟩,fun k hk=>?_,Nat.le_succ_of_le hEE.mn⟩⟩
 ·simp only [wopOf,appmOf]
  rw [if_pos (by simp),hsrc]
  simp only [Obs,hgs]
  rw [if_pos ⟨by rw [List.length_map];exact hA.1,by omega⟩,if_neg (by decide)]
 ·refine ⟨fun w hw=>WC.ok_mono (hW.ok w hw) fun t ht=>?_,hW.nd,fun t ht=>⟨(hW.tk t ht).1,Nat.lt_succ_of_lt (hW.tk t ht).2⟩⟩
  have ht2:=mem_toks hw ht
  show upd (upd S.mu g none) S.mn _ t=_
  rw [upd_ne _ _ (fun e=>hne (by rw [← e];exact ht2)),upd_ne _ _ (fun e=>hgr (by rw [← e];exact ht2))]
 ·show upd (upd S.mu g none) S.mn _ S.mn=_
  rw [upd_same,List.map_append]
 show upd (upd S.mu g none) S.mn _ k=_
 rw [upd_ne _ _ (by have:=hEE.mn;omega),upd_ne _ _ (by omega)]
 exact hEE.mu k hk
theorem nts_fz:∀ (ws:List WC) {b:Nat} {S:Sg},WOK b S ws → AV.nts (ws.map WC.fz)=true
 | [],_,_,_=>rfl
 | .p a :: ws,b,S,h=>by
   have h3:Pl a:=h.ok (.p a) (by simp)
   simp only [List.map_cons,AV.nts,WC.fz,h3.nt,nts_fz ws h.tail,Bool.and_self]
 | .w t sz len cs :: ws,b,S,h=>by
   simp only [List.map_cons,AV.nts,WC.fz,nts_fz ws h.tail,Bool.and_true]
   rfl
theorem frz_d {sz b n:Nat} {out:AV} {ws:List WC} {S1 S:Sg} (hA:AccD sz b out n ws S1) (hE:ExtM S1 S) (h0:0 < sz) :
 ∃ o m,frzD 2 S out=some (.slice o sz (unfl sz n (ws.map WC.fz)),{ S with mu:=m }) ∧ ∀ k,(k < b ∨ S1.mn ≤ k) → m k=S.mu k:=by
 have hA2:=hA.ext hE
 rcases hA.2.2 with ⟨rfl,rfl⟩ | ⟨_,g,rfl,h2,h3,h4,h5⟩
 ·have hws:ws=[]:=Lnl (by rw [hA.1,Nat.zero_mul])
  subst hws
  exact ⟨.full,S.mu,by simp only [frzD,List.map_nil,unfl],fun _ _=>rfl⟩
 have hgs:S.mu g=some (ws.map WC.av):=(hE.mu g h4).trans h2
 obtain ⟨m,h6,h7⟩:=frz_ws ws hA2.2.1
 refine ⟨.none,upd (upd m g (some (ws.map WC.fz))) g none,?_,fun k hk=>?_⟩
 ·simp only [frzD,hgs,Obs] at h6 ⊢
  rw [h6]
  simp only [Obs]
  rw [if_pos ⟨by rw [h7 g h5];exact hgs,nts_fz ws hA2.2.1⟩]
  simp only [frzOf]
  rw [if_pos ⟨trivial,h0⟩,upd_same]
  simp only [Obs]
  have hl:(ws.map WC.fz).length=n * sz:=by rw [List.length_map];exact hA.1
  rw [if_pos (by omega),List.drop_zero,← hl,List.take_length]
 have hkg:k ≠ g:=by rintro rfl;rcases hk with hk | hk <;> omega
 rw [upd_ne _ _ hkg,upd_ne _ _ hkg]
 refine h7 k fun h=>?_
 have:=hA.2.1.tk k h
 rcases hk with hk | hk <;> omega
theorem unfl_rows {α:Type} {sz:Nat} {cs:α → List AV} {enc:α → AV} (h0:sz ≠ 1) (hl:∀ a,(cs a).length=sz) (he:∀ a,enc a=.agg (cs a)):∀ (l:List α),unfl sz l.length (l.flatMap cs)=l.map enc
 | []=>rfl
 | a :: l=>by
   have e:(a :: l).flatMap cs=cs a ++ l.flatMap cs:=rfl
   rw [e,List.map_cons,List.length_cons]
   simp only [unfl]
   rw [List.drop_left' (hl a),unfl_rows h0 hl he l]
   congr 1
   split
   ·exact absurd rfl h0
   rw [List.take_left' (hl a),he]
theorem unfl_one {α:Type} {enc:α → AV}:∀ (l:List α),unfl 1 l.length (l.map enc)=l.map enc
 | []=>rfl
 | a :: l=>by
   simp only [List.map_cons,List.length_cons,unfl]
   rw [show (enc a :: l.map enc).drop 1=l.map enc from rfl,unfl_one l]
end Go.Sim.Kd
namespace Go.Sim.Kd
open Go Go.Sim
theorem rop_c (x:Int) (h0:0 ≤ x) (h1:x ≤ 14) (s:Sg):HC p N83_ [I x] s (fun r s'=>r=[I (dualOp x)] ∧ s'=s):=by
 refine hcf J f83_ J ?_
 simp only [chainOf]
 refine er (qp J (qn (kq1 J) kn (eseq (er (qp J (qn (kq2 J) kn (eblock (er (qp J (qb ?_))))))))))
 rintro (_ | _) h1
 refine qp J (qn (kq3 J) kn (ecF J (er (qp J (qb ?_)))))
 rintro (_ | _) h2
 refine qp J (qn (kq3 J) kn (ecF J (er (qp J (qb ?_)))))
 rintro (_ | _) h3
 refine qp J (qn (kq3 J) kn (ecF J (er (qp J (qb ?_)))))
 rintro (_ | _) h4
 refine qp J (qn (kq3 J) kn (ecF J (er (qp J (qb ?_)))))
 rintro (_ | _) h5
 refine qp J (qn (kq3 J) kn (ecF J (er (qp J (qb ?_)))))
 rintro (_ | _) h6
 refine qp J (qn (kq3 J) kn (ecF J (er (qp J (qb ?_)))))
 rintro (_ | _) h7
 refine qp J (qn (kq3 J) kn (ecF J (er (qp J (qb ?_)))))
 rintro (_ | _) h8
 refine qp J (qn (kq2 J) kn (ecF J (eskip (bqn (sqn (er (pq2 J (qn (kq1 J) kn (eret (fqr J ?_))))))))))
 refine ⟨congrArg (fun y=>[I y]) ?_,J⟩
 first
 | (simp only [Dte] at *;subst_vars;rfl)
 | (simp only [decide_eq_false_iff_not] at *
    have h:x=1 ∨ x=9 ∨ x=10 ∨ x=11 ∨ x=12 ∨ x=13 ∨ x=14:=by omega
    rcases h with rfl | rfl | rfl | rfl | rfl | rfl | rfl <;> rfl)
 refine qp J (qn (kq2 J) kn (ecT J (er (qp J (qn (kq1 J) kn (eret (bqr (sqr (fqr J ?_)))))))))
 refine ⟨congrArg (fun y=>[I y]) ?_,J⟩
 first
 | (simp only [Dte] at *;subst_vars;rfl)
 | (simp only [decide_eq_false_iff_not] at *
    have h:x=1 ∨ x=9 ∨ x=10 ∨ x=11 ∨ x=12 ∨ x=13 ∨ x=14:=by omega
    rcases h with rfl | rfl | rfl | rfl | rfl | rfl | rfl <;> rfl)
 rotate_left
 rotate_left
 rotate_left
 rotate_left
 rotate_left
 rotate_left
 rotate_left
 all_goals
  refine qp J (qn (kq3 J) kn (ecT J (er (qp J (qn (kq1 J) kn (eret (bqr (sqr (fqr J ?_)))))))))
  refine ⟨congrArg (fun y=>[I y]) ?_,J⟩
  first
  | (simp only [Dte] at *;subst_vars;rfl)
  | (simp only [decide_eq_false_iff_not] at *
     have h:x=1 ∨ x=9 ∨ x=10 ∨ x=11 ∨ x=12 ∨ x=13 ∨ x=14:=by omega
     rcases h with rfl | rfl | rfl | rfl | rfl | rfl | rfl <;> rfl)
theorem rargs_l (l:List Arg) (o:Own) (i:Nat) (hi:i ≤ l.length) (hs:l.length ≤ 2 ^ 40) {n:Nat} {v:Nat → Bool} {D:List (Nat × List AV)} {S:Sg} {Q:Ex → Fr → Prop}
 (hc:Can o v) (hX:∀ j n' v' o',Can o' v' → Q (.exit 0) ⟨uv (uv (uv (uv (uv e0 9 (B false)) 8 (I j)) 7 (I (l.map Arg.enc).length)) 6 (SL 2 (l.map Arg.enc))) 3 (.slice o' 2 (l.map (fun a=>(dArg a).enc))),(fun _=>none),n',v',D,S⟩):EX (callL p) (.loop F44_l1) ⟨uv (uv (uv (uv e0 8 (I i)) 7 (I (l.map Arg.enc).length)) 6 (SL 2 (l.map Arg.enc))) 3 (.slice o 2 ((l.take i).map (fun a=>(dArg a).enc))),(fun _=>none),n,v,D,S⟩ Q:=by
 refine eloop (er (qp J (qb ?_)))
 rintro (_ | _) h1
 ·refine qn (kq5 J) kn (eseq (ecF J (eexit (sqx ?_))))
  have he:i=l.length:=by simp at h1;omega
  subst he
  rw [List.take_length]
  exact hX _ _ _ _ hc
 refine qn (kq5 J) kn (eseq (ecT J (eskip (sqn (eseq (eblock (er ?_)))))))
 have hlt:i < l.length:=by simpa using h1
 obtain ⟨a,ha⟩:=get_of_lt hlt
 refine hia (y:=.agg [I a.ty,B a.co]) rfl rfl (by omega) (by simp [ha,Arg.enc]) rfl (hlda rfl rfl (lc rfl (lc rfl (ln rfl))) (hal (dc (dc (dc (dc (dc (dc (dc dn rfl) rfl) rfl) rfl) rfl) rfl) rfl) (hstl rfl rfl rfl rfl (Nlb rfl) (lc rfl (lc rfl (ln rfl))) (qk (kc rfl (kc rfl (kc rfl (kc rfl (kc rfl kn))))) (kc rfl kn) (sqn (ereg (qp rfl (qp rfl (qp rfl (qp rfl (qp rfl (qp rfl (hbuild rfl rfl (lc rfl (lc rfl (ln rfl))) (hbsl rfl rfl (lc rfl (ln rfl)) (hapC rfl rfl hc (by simp) (by simp;omega) (r:=(l.take (i + 1)).map (fun a=>(dArg a).enc)) (by rw [← take_map (g:=fun a=>(dArg a).enc) ha];rfl) ?_)))))))))))))))
 intro v1 hc1 _
 refine qp J (qk (kq4 J) kn (bqn (sqn (ereg (hadd J J (i64w (by omega)) (qp J (qk (kq4 J) kn ?_)))))))
 exact rargs_l l (.tip n) (i + 1) (by omega) hs hc1 hX
termination_by l.length - i
decreasing_by all_goals omega
theorem rargs_c (l:List Arg) (hs:l.length ≤ 2 ^ 30) (s:Sg):HC p N44_ [encArgs l] s (fun r s'=>r=[encArgs (l.map dArg)] ∧ s'=s):=by
 refine hcf J f44_ J ?_
 simp only [chainOf]
 refine er (qp J (qn (kq1 J) kn (er (qp J (qn (kq2 J) kn (eseq (er (pq3 J (qn (kq4 J) kn (eblock (rargs_l l .full 0 (by omega) (by omega) trivial ?_)))))))))))
 intro j n' v' o' hc
 refine bqx (sqn (er (pq2 J (qn (kq1 J) kn (eret (fqr J ?_))))))
 refine ⟨?_,J⟩
 rw [encArgs,List.map_map]
 rfl
def RNode (b:Node):Prop:=∀ s,HC p N45_ [.agg b.cs] s (fun r s'=>r=[.agg (dualN b).cs] ∧ ExtM s s')
def rowN (a:Node):List WC:=a.cs.map .p
theorem cs_pl (a:Node):∀ c ∈ a.cs,Pl c:=by
 intro c hc
 simp only [Node.cs,List.mem_cons,List.not_mem_nil,or_false] at hc
 rcases hc with rfl | rfl | rfl | rfl | rfl
 ·exact Pl.I _
 ·exact Pl.I _
 ·exact Pl.I _
 ·exact Pl.SL _ _
 exact Pl.SL _ _
theorem rowN_ok (b:Nat) (S:Sg) (a:Node):WOK b S (rowN a):=WOK.plain (cs_pl a)
theorem map_av (l:List AV):(l.map WC.p).map WC.av=l:=by
 rw [List.map_map]
 exact List.map_id _
theorem map_fz (l:List AV):(l.map WC.p).map WC.fz=l:=by
 rw [List.map_map]
 exact List.map_id _
theorem st3 {a b c x y o:AV} (h:o.cells=[o]):wr [a,b,c,x,y] 3 o.cells=[a,b,c,o,y]:=by
 rw [h]
 rfl
theorem st4 {a b c x y o:AV} (h:o.cells=[o]):wr [a,b,c,x,y] 4 o.cells=[a,b,c,x,o]:=by
 rw [h]
 rfl
theorem Node.cells_cs (a:Node):(AV.agg a.cs).cells=(rowN a).map WC.av:=(map_av a.cs).symm
def rws {α β:Type} (row:β → List WC) (f:α → β) (l:List α) (i:Nat):List WC:=(l.take i).flatMap fun a=>row (f a)
theorem rws_succ {α β:Type} {row:β → List WC} {f:α → β} {l:List α} {i:Nat} {a:α} (h:l[i]?=some a):rws row f l i ++ row (f a)=rws row f l (i + 1):=by
 unfold rws
 rw [List.take_add_one,h,List.flatMap_append]
 simp
theorem rNo_l1 (e:Node) (o m t:Int) (l:List Node) (S0:Sg) (H:∀ b ∈ l,RNode b) (out:AV) (i:Nat) (hi:i ≤ l.length) (hs:l.length ≤ 2 ^ 40) {n:Nat} {v:Nat → Bool} {D:List (Nat × List AV)} {S:Sg} {Q:Ex → Fr → Prop}
 (hE0:ExtM S0 S) (hA:AccD 5 S0.mn out i (rws rowN dualN l i) S) (hX:∀ j out' S',AccD 5 S0.mn out' l.length (rws rowN dualN l l.length) S' → ExtM S0 S' → Q (.exit 0) ⟨upd (upd (upd (uv (uv (uv (uv e0 23 (B false)) 22 (I j)) 21 (I (l.map Node.enc).length)) 20 (.slice .none 5 (l.map Node.enc))) 3 (some (.loc 3 0))) 2 (some (.loc 2 0))) 1 (some (.loc 1 0)),upd (upd (upd ((fun _=>none)) 3 (some ([I o,I m,I t,out',.slice .full 7 []]))) 2 (some ([I 0,I 0,I 0,.slice .full 5 [],.slice .full 7 []]))) 1 (some (e.cs)),n,v,D,S'⟩):EX (callL p) (.loop F45_l1) ⟨upd (upd (upd (uv (uv (uv e0 22 (I i)) 21 (I (l.map Node.enc).length)) 20 (.slice .none 5 (l.map Node.enc))) 3 (some (.loc 3 0))) 2 (some (.loc 2 0))) 1 (some (.loc 1 0)),upd (upd (upd ((fun _=>none)) 3 (some ([I o,I m,I t,out,.slice .full 7 []]))) 2 (some ([I 0,I 0,I 0,.slice .full 5 [],.slice .full 7 []]))) 1 (some (e.cs)),n,v,D,S⟩ Q:=by
 refine eloop (er (qp J (qb ?_)))
 rintro (_ | _) h1
 ·refine qn (kq7 J) (kq3 J) (eseq (ecF J (eexit (sqx ?_))))
  have he:i=l.length:=by simp at h1;omega
  subst he
  exact hX _ _ _ hA hE0
 refine qn (kq7 J) (kq3 J) (eseq (ecT J (eskip (sqn (eseq (eblock (er ?_)))))))
 have hlt:i < l.length:=by simpa using h1
 obtain ⟨a,ha⟩:=get_of_lt hlt
 have hd:=drop_cons ha
 refine hia (y:=.agg a.cs) rfl rfl (by omega) (by simp [ha,Node.enc_eq,Br.enc_eq,CFun.enc_eq]) rfl (hlda rfl rfl (lc rfl (lc rfl (lc rfl (lc rfl (lc rfl (ln rfl)))))) (hal (dc (dc (dc (dc (dc (dc (dc (dc (dc dn rfl) rfl) rfl) rfl) rfl) rfl) rfl) rfl) rfl) (hstl rfl rfl rfl rfl (Nlb rfl) (lc rfl (lc rfl (lc rfl (lc rfl (lc rfl (ln rfl)))))) (qk (kc rfl (kc rfl (kc rfl (kc rfl (kc rfl (kc rfl (kc rfl kn))))))) (kc rfl (kc rfl (kc rfl (kc rfl kn)))) (sqn (ereg (qp rfl (qp rfl (hlda rfl rfl (lc rfl (lc rfl (lc rfl (lc rfl (lc rfl (ln rfl)))))) (hcall rfl rfl rfl (H a (Lmg ha) _) ?_))))))))))
 rintro _ S1 ⟨rfl,hE⟩
 refine hbsl J J (lq1 J) ?_
 obtain ⟨out2,S2,w1,w2,w3⟩:=appm_d (v:=.agg (dualN a).cs) (r:=rowN (dualN a)) (by_:=72) hA hE0 hE (rowN_ok _ _ _) rfl (by omega) (Node.cells_cs _)
 refine hwop rfl w1 (qp rfl (hstl rfl rfl rfl (by rw [w2.c1];rfl) (by rw [w2.c1];exact Nlb rfl) (st3 w2.c1) (qk (kq6 rfl) (kq3 rfl) (bqn (sqn (ereg (hadd rfl rfl (i64w (by omega)) (qp rfl (qk (kq6 rfl) (kq3 rfl) ?_)))))))))
 exact rNo_l1 e o m t l S0 H out2 (i + 1) (by omega) hs w3 (by rw [← rws_succ ha];exact w2) hX
termination_by l.length - i
decreasing_by all_goals omega
theorem st7 {a b c d e g h o:AV} (q:o.cells=[o]):wr [a,b,c,d,e,g,h] 1 o.cells=[a,o,c,d,e,g,h]:=by
 rw [q]
 rfl
def rowB (x:Bool):List WC:=[.p (B x)]
theorem rowB_ok (b:Nat) (S:Sg) (x:Bool):WOK b S (rowB x):=WOK.plain (as:=[B x]) fun c hc=>by
 rw [List.mem_singleton.1 hc]
 exact Pl.B _
theorem WOK.le {b b':Nat} {S:Sg} {ws:List WC} (h:WOK b S ws) (hb:b' ≤ b):WOK b' S ws:=⟨h.ok,h.nd,fun t ht=>⟨Nat.le_trans hb (h.tk t ht).1,(h.tk t ht).2⟩⟩
theorem ws_av (ws:List WC) (h:∀ w ∈ ws,∃ a,w=.p a):ws.map WC.av=ws.map WC.fz:=by
 refine List.map_congr_left fun w hw=>?_
 obtain ⟨a,rfl⟩:=h w hw
 rfl
theorem AccD.wc {sz b n:Nat} {out:AV} {ws:List WC} {S:Sg} (h:AccD sz b out n ws S) (h0:0 < sz) (hp:∀ w ∈ ws,∃ a,w=.p a) :
 ∃ w:WC,w.av=out.er ∧ w.fz=SL sz (unfl sz n (ws.map WC.fz)) ∧ WOK b S [w]:=by
 rcases h.2.2 with ⟨rfl,rfl⟩ | ⟨_,g,rfl,h2,h3,h4,h5⟩
 ·exact ⟨.p (SL sz []),rfl,rfl,WOK.plain (as:=[SL sz []]) fun c hc=>by rw [List.mem_singleton.1 hc];exact Pl.SL _ _⟩
 refine ⟨.w g sz n (ws.map WC.fz),rfl,rfl,⟨fun w hw=>?_,by simp [toks,WC.tk],fun t ht=>?_⟩⟩
 ·rw [List.mem_singleton.1 hw]
  exact ⟨by rw [h2,ws_av ws hp],by rw [List.length_map,h.1],h0,nts_fz ws h.2.1⟩
 obtain rfl:t=g:=by simpa [toks,WC.tk] using ht
 exact ⟨h3,h4⟩
theorem rws_p {α:Type} {row:α → List WC} {f:α → α} {l:List α} {i:Nat} (h:∀ a,∀ w ∈ row a,∃ c,w=.p c):∀ w ∈ rws row f l i,∃ c,w=.p c:=by
 intro w hw
 obtain ⟨a,_,ha⟩:=List.mem_flatMap.1 hw
 exact h _ w ha
theorem rws_fz {α:Type} {row:α → List WC} {f:α → α} {l:List α} {cs:α → List AV} (h:∀ a,(row a).map WC.fz=cs a) (i:Nat):(rws row f l i).map WC.fz=((l.take i).map f).flatMap cs:=by
 unfold rws
 rw [List.map_flatMap,List.flatMap_map]
 simp only [h]
def brCs (b:Br):List AV:=ints b.vars :: bools b.co :: b.body.cs
theorem row_br {S0 S:Sg} {b:Br} {co:AV} {n:Nat} (hE:ExtM S0 S) (hA:AccD 1 S0.mn co b.co.length (rws rowB not b.co b.co.length) S) :
 ∃ r:List WC,r.length=7 ∧ r.map WC.av=AV.ers [ints b.vars,co,I (dualN b.body).op,I (dualN b.body).n,I (dualN b.body).ty,SL 5 ((dualN b.body).args.map Node.enc),SL 7 ((dualN b.body).brs.map Br.enc)] ∧ WOK S0.mn S r ∧ r.map WC.fz=brCs (dualB b):=by
 obtain ⟨w,h1,h2,h3⟩:=hA.wc (by decide) (rws_p fun a w hw=>by rw [List.mem_singleton.1 hw];exact ⟨_,rfl⟩)
 have hf:unfl 1 b.co.length ((rws rowB not b.co b.co.length).map WC.fz)=(b.co.map not).map B:=by
  rw [rws_fz (cs:=fun a=>[B a]) (fun a=>rfl),List.take_length]
  have e:∀ l:List Bool,l.flatMap (fun a=>[B a])=l.map B:=fun l=>by
   induction l with
   | nil=>rfl
   | cons a l ih=>simp only [List.flatMap_cons,ih,List.map_cons];rfl
  rw [e]
  have:=unfl_one (enc:=B) (b.co.map not)
  rwa [List.length_map] at this
 refine ⟨[.p (ints b.vars)] ++ ([w] ++ (dualN b.body).cs.map .p),J,?_,?_,?_⟩
 ·simp only [List.map_append,List.map_cons,List.map_nil,map_av]
  rw [h1]
  rfl
 ·refine (WOK.plain (as:=[ints b.vars]) fun c hc=>by rw [List.mem_singleton.1 hc];exact Pl.SL _ _).app ((h3.app (WOK.plain (b:=S.mn) (cs_pl _)) hE.mn fun t ht=>(h3.tk t ht).2)) (Nat.le_refl _) ?_
  intro t ht
  simp [toks,WC.tk] at ht
 simp only [List.map_append,List.map_cons,List.map_nil,map_fz]
 rw [h2,hf,dualB_eq]
 rfl
theorem brCs_len (b:Br):(brCs b).length=7:=rfl
theorem enc_brCs (b:Br):b.enc=.agg (brCs b):=b.enc_eq
theorem rNo_l3 (vs c3 c4 c5 c6 c7:AV) (L2 L3:List AV) (l:List Bool) (S0:Sg) (co:AV) (i:Nat) (hi:i ≤ l.length) (hs:l.length ≤ 2 ^ 40) {x52 x53 x54:AV} {n:Nat} {v:Nat → Bool} {D:List (Nat × List AV)} {S:Sg} {Q:Ex → Fr → Prop}
 (hE0:ExtM S0 S) (hA:AccD 1 S0.mn co i (rws rowB not l i) S) (hX:∀ j co' S',AccD 1 S0.mn co' l.length (rws rowB not l l.length) S' → ExtM S0 S' → Q (.exit 4) ⟨upd (upd (upd (uv (uv (uv (uv (uv (uv (uv e0 68 (B false)) 67 (I j)) 66 (I (l.map B).length)) 65 (.slice .none 1 (l.map B))) 54 (x54)) 53 (x53)) 52 (x52)) 8 (some (.loc 8 0))) 3 (some (.loc 3 0))) 2 (some (.loc 2 0)),upd (upd (upd ((fun _=>none)) 8 (some ([vs,co',c3,c4,c5,c6,c7]))) 3 (some (L3))) 2 (some (L2)),n,v,D,S'⟩):EX (callL p) (.loop F45_l3) ⟨upd (upd (upd (uv (uv (uv (uv (uv (uv e0 67 (I i)) 66 (I (l.map B).length)) 65 (.slice .none 1 (l.map B))) 54 (x54)) 53 (x53)) 52 (x52)) 8 (some (.loc 8 0))) 3 (some (.loc 3 0))) 2 (some (.loc 2 0)),upd (upd (upd ((fun _=>none)) 8 (some ([vs,co,c3,c4,c5,c6,c7]))) 3 (some (L3))) 2 (some (L2)),n,v,D,S⟩ Q:=by
 refine eloop (er (qp J (qb ?_)))
 rintro (_ | _) h1
 ·refine qn (kq10 J) (kq3 J) (eseq (ecF J (eexit (sqx ?_))))
  have he:i=l.length:=by simp at h1;omega
  subst he
  exact hX _ _ _ hA hE0
 refine qn (kq10 J) (kq3 J) (eseq (ecT J (eskip (sqn (eseq (eblock (er ?_)))))))
 have hlt:i < l.length:=by simpa using h1
 obtain ⟨a,ha⟩:=get_of_lt hlt
 have hd:=drop_cons ha
 refine hia (y:=B a) rfl rfl (by omega) (by simp [ha,Node.enc_eq,Br.enc_eq,CFun.enc_eq]) rfl (qp rfl (qp rfl (qk (kc rfl (kc rfl (kc rfl (kc rfl (kc rfl (kc rfl (kc rfl (kc rfl (kc rfl (kc rfl kn)))))))))) (kc rfl (kc rfl (kc rfl kn))) (sqn (ereg (qp rfl (qp rfl (qp rfl (qp rfl (hbsl rfl rfl (lc rfl (ln rfl)) ?_))))))))))
 obtain ⟨co2,S2,w1,w2,w3⟩:=appm_d (by_:=1) (v:=B (!a)) (r:=rowB (!a)) hA hE0 (ExtM.refl S) (rowB_ok _ _ _) rfl (by omega) rfl
 refine hwop rfl w1 (qp rfl (hstl rfl rfl rfl (by rw [w2.c1];rfl) (by rw [w2.c1];exact Nlb rfl) (st7 w2.c1) (qk (kq9 rfl) (kq3 rfl) (bqn (sqn (ereg (hadd rfl rfl (i64w (by omega)) (qp rfl (qk (kq9 rfl) (kq3 rfl) ?_)))))))))
 exact rNo_l3 vs c3 c4 c5 c6 c7 L2 L3 l S0 co2 (i + 1) (by omega) hs w3 (by rw [← rws_succ ha];exact w2) hX
termination_by l.length - i
decreasing_by all_goals omega
theorem rNo_l2 (c1 c2 c3 c4:AV) (L2:List AV) (l:List Br) (S0:Sg) (hco:∀ b ∈ l,b.co.length ≤ 2 ^ 40) (H:∀ b ∈ l,RNode b.body) (out:AV) (ws:List WC) (i:Nat) (hi:i ≤ l.length) (hs:l.length ≤ 2 ^ 40) {n:Nat} {v:Nat → Bool} {D:List (Nat × List AV)} {S:Sg} {Q:Ex → Fr → Prop}
 (hE0:ExtM S0 S) (hA:AccD 7 S0.mn out i ws S) (hw:ws.map WC.fz=((l.take i).map dualB).flatMap brCs) (hX:∀ j out' ws' S',AccD 7 S0.mn out' l.length ws' S' → ws'.map WC.fz=(l.map dualB).flatMap brCs → ExtM S0 S' → Q (.exit 2) ⟨upd (upd (uv (uv (uv (uv e0 55 (B false)) 54 (I j)) 53 (I (l.map Br.enc).length)) 52 (.slice .none 7 (l.map Br.enc))) 3 (some (.loc 3 0))) 2 (some (.loc 2 0)),upd (upd ((fun _=>none)) 3 (some ([c1,c2,c3,c4,out']))) 2 (some (L2)),n,v,D,S'⟩):EX (callL p) (.loop F45_l2) ⟨upd (upd (uv (uv (uv e0 54 (I i)) 53 (I (l.map Br.enc).length)) 52 (.slice .none 7 (l.map Br.enc))) 3 (some (.loc 3 0))) 2 (some (.loc 2 0)),upd (upd ((fun _=>none)) 3 (some ([c1,c2,c3,c4,out]))) 2 (some (L2)),n,v,D,S⟩ Q:=by
 refine eloop (er (qp J (qb ?_)))
 rintro (_ | _) h1
 ·refine qn (kq6 J) (kq2 J) (eseq (ecF J (eexit (sqx ?_))))
  have he:i=l.length:=by simp at h1;omega
  subst he
  rw [List.take_length] at hw
  exact hX _ _ _ _ hA hw hE0
 refine qn (kq6 J) (kq2 J) (eseq (ecT J (eskip (sqn (eseq (eblock (er ?_)))))))
 have hlt:i < l.length:=by simpa using h1
 obtain ⟨a,ha⟩:=get_of_lt hlt
 have hd:=drop_cons ha
 refine hia (y:=.agg (ints a.vars :: bools a.co :: a.body.cs)) rfl rfl (by omega) (by simp [ha,Node.enc_eq,Br.enc_eq,CFun.enc_eq]) rfl (hlda rfl rfl (lc rfl (lc rfl (lc rfl (lc rfl (lc rfl (lc rfl (lc rfl (ln rfl)))))))) (hal (dc (dc (dc (dc (dc (dc (dc (dc dn rfl) rfl) rfl) rfl) rfl) rfl) rfl) rfl) (hstl rfl rfl rfl rfl (Nlb rfl) (lc rfl (lc rfl (lc rfl (lc rfl (lc rfl (lc rfl (lc rfl (ln rfl)))))))) (qk (kc rfl (kc rfl (kc rfl (kc rfl (kc rfl (kc rfl kn)))))) (kc rfl (kc rfl (kc rfl kn))) (sqn (eseq (ereg_1 (dc (dc (dc (dc (dc (dc dn rfl) rfl) rfl) rfl) rfl) rfl) (qp rfl (qp rfl (qp rfl (hlda rfl rfl (lc rfl (lc rfl (lc rfl (lc rfl (lc rfl (ln rfl)))))) (hcall rfl rfl rfl (H a (Lmg ha) _) ?_))))))))))))
 rintro _ S1 ⟨rfl,hE⟩
 refine hbuild J J (lq7 J) (hal (dq12 J) (hstl J J J J (Nlb J) (lq7 J) (qn (kq7 J) (kq4 J) (eseq (er (pq4 J (qn (kq9 J) (kq3 J) (eblock (rNo_l3 _ _ _ _ _ _ _ _ a.co S1 _ 0 (by omega) (hco a (Lmg ha)) (ExtM.refl _) AccD.nil ?_)))))))))
 intro j co' S' hco' hE'
 refine bqx (sqn (ereg (pq2 J (hlda J J (lq7 J) (hbsl J J (lq1 J) ?_)))))
 obtain ⟨r,hr1,hr2,hr3,hr4⟩:=row_br (b:=a) (n:=0) hE' hco'
 obtain ⟨out2,S2,w1,w2,w3⟩:=appm_d (by_:=120) (v:=.agg (r.map WC.av)) hA hE0 (hE.trans hE') (hr3.le hE.mn) hr1 (by omega) rfl
 rw [hr2] at w1
 refine hwop rfl w1 (qp rfl (hstl rfl rfl rfl (by rw [w2.c1];rfl) (by rw [w2.c1];exact Nlb rfl) (st4 w2.c1) (qk (kq5 rfl) (kq2 rfl) (bqn (sqn (ereg (hadd rfl rfl (i64w (by omega)) (qp rfl (qk (kq5 rfl) (kq2 rfl) ?_)))))))))
 exact rNo_l2 c1 c2 c3 c4 L2 l S0 hco H out2 (ws ++ r) (i + 1) (by omega) hs w3 w2 (by rw [List.map_append,hw,hr4,List.take_add_one,ha];simp) hX
termination_by l.length - i
decreasing_by all_goals omega
end Go.Sim.Kd
namespace Go.Sim.Kd
open Go Go.Sim
theorem hsts {p:Pg} {E:Nat → Option TV} {L:Nat → Option (List AV)} {n:Nat} {v:Nat → Bool} {D:List (Nat × List AV)} {S:Sg} {l:List AIns} {Q:Fr → Prop} {g off m:Nat} {a x:AO} {y:AV} {cs cs':List AV}
 (h1:evV E a=some (.mp g off)) (h2:evV E x=some y) (h3:S.mu g=some cs) (h4:stsK true m y (.mp g off)=true) (h5:off + y.cells.length ≤ cs.length) (h6:wr cs off y.erT.cells=cs')
 (k:HL (callL p) l ⟨E,L,n,v,D,{ S with mu:=upd S.mu g (some cs') }⟩ Q):HL (callL p) (⟨none,none,.sts true m a x⟩ :: l) ⟨E,L,n,v,D,S⟩ Q:=by
 subst h6
 refine hop ?_ k
 simp only [ins,run1,aop,h1,h2,Obs,stsS,if_pos h4,h3,if_pos h5]
 rfl
theorem frz_two {S1 S:Sg} {b nA nB:Nat} {wA wB:List WC} {oA oB:AV} {x y z:Int} (hA:AccD 5 b oA nA wA S1) (hB:AccD 7 S1.mn oB nB wB S) (hE:ExtM S1 S) :
 ∃ kA kB m,frzDL (frzD 2) S [I x,I y,I z,oA,oB]=some ([I x,I y,I z,.slice kA 5 (unfl 5 nA (wA.map WC.fz)),.slice kB 7 (unfl 7 nB (wB.map WC.fz))],{ S with mu:=m }) ∧ ∀ k,k < b → b ≤ S1.mn → m k=S.mu k:=by
 obtain ⟨kA,mA,a1,a2⟩:=frz_d hA hE (by decide)
 have hB2:AccD 7 S1.mn oB nB wB { S with mu:=mA }:=hB.mono (fun t ht _=>a2 t (.inr ht)) (Nat.le_refl _)
 obtain ⟨kB,mB,b1,b2⟩:=frz_d hB2 (ExtM.refl _) (by decide)
 refine ⟨kA,kB,mB,?_,fun k hk hb=>(b2 k (.inl (by omega))).trans (a2 k (.inl hk))⟩
 simp only [frzDL,(Pl.I _).fz,Obs,a1,b1]
theorem rowN_cs (ns:List Node):(ns.flatMap rowN).map WC.fz=ns.flatMap Node.cs:=by
 induction ns with
 | nil=>rfl
 | cons a l ih=>rw [List.flatMap_cons,List.map_append,ih,List.flatMap_cons];exact congrArg (· ++ l.flatMap Node.cs) (map_fz a.cs)
theorem rws_all {α β:Type} {row:β → List WC} {f:α → β} {l:List α}:rws row f l l.length=(l.map f).flatMap row:=by
 unfold rws
 rw [List.take_length,List.flatMap_map]
theorem AccD.two {b:Nat} {out:AV} {ns:List Node} {S:Sg} (h:AccD 5 b out ns.length (ns.flatMap rowN) S) (hl:ns.length=2):∃ g x y,ns=[x,y] ∧ out=.ms g 0 2 5 ∧ S.mu g=some (x.cs ++ y.cs) ∧ b ≤ g ∧ g < S.mn:=by
 match ns,hl with
 | [x,y],_ =>
   rcases h.2.2 with ⟨h,_⟩ | ⟨_,g,rfl,h1,h2,h3,_⟩
   ·cases h
   refine ⟨g,x,y,J,J,?_,h2,h3⟩
   rw [h1]
   simp [rowN,WC.av,Function.comp_def]
theorem AccD.swap {b g:Nat} {x y:Node} {S:Sg} {m:Nat → Option (List AV)} (hm:m g=some (y.cs ++ x.cs)) (h1:b ≤ g) (h2:g < S.mn):AccD 5 b (.ms g 0 2 5) 2 ([y,x].flatMap rowN) { S with mu:=m }:=by
 have e:[y,x].flatMap rowN=(y.cs ++ x.cs).map .p:=by simp [rowN]
 refine ⟨rfl,?_,.inr ⟨by decide,g,rfl,?_,h1,h2,?_⟩⟩
 ·rw [e]
  refine WOK.plain fun c hc=>?_
  rcases List.mem_append.1 hc with hc | hc
  ·exact cs_pl _ c hc
  exact cs_pl _ c hc
 ·show m g=_
  rw [hm,e,map_av]
 rw [e]
 simp [toks,WC.tk,List.flatMap_map]
theorem rNode_c0 (a:Node) (ho0:0 ≤ a.op) (ho1:a.op ≤ 14) (h9:a.op=9 → a.args.length=2) (ha:a.args.length ≤ 2 ^ 30) (hb:a.brs.length ≤ 2 ^ 30) (hco:∀ b ∈ a.brs,b.co.length ≤ 2 ^ 40) (H1:∀ b ∈ a.args,RNode b) (H2:∀ b ∈ a.brs,RNode b.body) (s:Sg):HC p N45_ [.agg a.cs] s (fun r s'=>r=[.agg (dualN a).cs] ∧ ExtM s s'):=by
 refine hcf J f45_ J ?_
 simp only [chainOf]
 refine er (hbox (dc dn J) J (lq5 J) (hal (dq2 J) (qn (kq2 J) (kq2 J) (eseq (ereg_1 (dq2 J) (pq2 J (hcall J J J (rop_c a.op ho0 ho1 _) ?_)))))))
 rintro _ _ ⟨rfl,hq⟩
 obtain rfl:=hq.symm
 refine pq4 J (hbuild J J (lq5 J) (hal (dq10 J) (hstl J J J J (Nlb J) (lq5 J) (qn (kq3 J) (kq3 J) (eseq (er (pq4 J (qn (kq6 J) (kq3 J) (eblock (rNo_l1 a (dualOp a.op) a.n a.ty a.args s H1 (.slice .full 5 []) 0 (by omega) (by omega) (ExtM.refl s) AccD.nil ?_))))))))))
 intro j outA S1 hA hE1
 rw [rws_all] at hA
 refine bqx (sqn (eseq (er (pq3 J (qb ?_)))))
 rintro (_ | _) h1
 obtain ⟨S5,hA5,hE5⟩:∃ S5,AccD 5 s.mn outA (dArgs a).length ((dArgs a).flatMap rowN) S5 ∧ ExtM s S5 ∧ S5=S1:=by
  rw [dArgs,if_neg (by simpa using h1),List.length_map]
  exact ⟨S1,hA,hE1,rfl⟩
 obtain ⟨hE5,rfl⟩:=hE5
 refine qn (kq4 J) (kq3 J) (ecF J (eskip (sqn (eseq (er (pq4 J (qn (kq5 J) (kq2 J) (eblock (rNo_l2 _ _ _ _ _ a.brs S5 hco H2 (.slice .full 7 []) [] 0 (by omega) (by omega) (ExtM.refl _) AccD.nil J ?_)))))))))
 rotate_left
 obtain ⟨g,x,y,hns,rfl,hg,hb1,hb2⟩:=AccD.two (by rw [List.length_map];exact hA) (by rw [List.length_map];exact h9 (by simpa using h1))
 refine qk (kc rfl (kc rfl (kc rfl (kc rfl kn)))) (kc rfl (kc rfl (kc rfl kn))) (sqn (ecT rfl (ereg (qp rfl (qp rfl (qp rfl (qp rfl (qp rfl (qp rfl (hiam rfl rfl (by decide) (by decide) (hldm rfl hg (y:=.agg y.cs) rfl (qp rfl (qp rfl (hiam rfl rfl (by decide) (by decide) (hldm rfl hg (y:=.agg x.cs) rfl (hiam rfl rfl (by decide) (by decide) (hsts rfl rfl hg rfl (Nlb rfl) (cs':=y.cs ++ y.cs) rfl (hiam rfl rfl (by decide) (by decide) (hstm rfl rfl (upd_same _ _ _) rfl (Nlb rfl) (by simp) (cs':=y.cs ++ x.cs) rfl ?_)))))))))))))))))))
 obtain ⟨S5,hS5⟩:∃ S5:Sg,S5={ S1 with mu:=upd (upd S1.mu g (some (y.cs ++ y.cs))) g (some (y.cs ++ x.cs)) }:=⟨_,rfl⟩
 have hA5:AccD 5 s.mn (.ms g 0 2 5) (dArgs a).length ((dArgs a).flatMap rowN) S5:=by
  rw [hS5,dArgs,if_pos (by simpa using h1),hns]
  exact AccD.swap (upd_same _ _ _) hb1 hb2
 have hE5:ExtM s S5:=by
  rw [hS5]
  exact mu_back hE1 hb1
 rw [← hS5]
 refine qn (kq3 J) (kq3 J) (eseq (er (pq4 J (qn (kq5 J) (kq2 J) (eblock (rNo_l2 _ _ _ _ _ a.brs S5 hco H2 (.slice .full 7 []) [] 0 (by omega) (by omega) (ExtM.refl _) AccD.nil J ?_))))))
 rotate_left
 all_goals
  intro j2 outB wB S6 hB hwB hE6
  refine bqx (sqn (er (hlda J J (lq5 J) (hstl J J J J (Nlb J) (lq5 J) (qn (kq1 J) (kq1 J) ?_)))))
  obtain ⟨kA,kB,m,w1,w2⟩:=frz_two (x:=dualOp a.op) (y:=a.n) (z:=a.ty) hA5 hB hE6
  refine eretz_loc J w1 (fqr J ?_)
  refine ⟨?_,(hE5.trans hE6).muX fun k hk=>w2 k hk hE5.mn⟩
  rw [rowN_cs,unfl_rows (by decide) cs_len Node.enc_eq,hwB]
  have e:=unfl_rows (by decide) brCs_len enc_brCs (a.brs.map dualB)
  rw [List.length_map] at e
  rw [e,dualN_cs]
  rfl
theorem rNode_c (ds:List Decl) (fs:List CFun) (a:Node):∀ {X A:Int → Bool},vN ds fs a X A=true → a.sz ≤ 2 ^ 30 → RNode a:=by
 induction a using Node.ind with
 | h a ih1 ih2 =>
   intro X A hv hz s
   obtain ⟨p1,p2,want,xs,hh,_⟩:=vN_parts hv
   obtain ⟨o0,o1⟩:=head_op hh
   refine rNode_c0 a o0 o1 (len9 hv) (by have:=a.sz_args;omega) (by have:=a.sz_brs;omega) (fun b hb=>by have:=Node.sz_br hb;have:=b.sz_co;omega) (fun b hb=>?_) (fun b hb=>?_) s
   ·obtain ⟨_,_,h⟩:=p1 b hb
    exact ih1 b hb h (by have:=Node.sz_arg hb;omega)
   obtain ⟨_,_,h⟩:=p2 b hb
   exact ih2 b hb h (by have:=Node.sz_br hb;have:=b.sz_body;omega)
end Go.Sim.Kd
namespace Go.Sim.Kd
open Go Go.Sim
theorem hapK {c:Caller} {l:List AIns} {E:Nat → Option TV} {L:Nat → Option (List AV)} {n:Nat} {v:Nat → Bool} {D:List (Nat × List AV)} {S:Sg} {Q:Fr → Prop} {d sz by_:Nat} {s x:AO} {o':Own} {ys:List AV}
 (h1:evV E s=some (.slice .full sz [])) (h2:evV E x=some (.slice o' sz ys)) (hlen:ys.length * by_ ≤ 2 ^ 47)
 (k:∀ o1 n1 v1,n ≤ n1 → (∀ t,t < n → v1 t=v t) → HL c l ⟨upd E d (some (.val (.slice o1 sz ys))),L,n1,v1,D,S⟩ Q):HL c (⟨some d,none,.app sz by_ s x⟩ :: l) ⟨E,L,n,v,D,S⟩ Q:=by
 cases ys with
 | nil=>exact hap0 h1 h2 rfl (k .full n v (Nat.le_refl _) fun _ _=>rfl)
 | cons y ys=>exact hapF h1 h2 (by simp) (by simpa using hlen) fun v' a b=>k (.tip n) (n + 1) v' (by omega) fun t ht=>b t (by omega)
def xcs (x:Xtor):List AV:=[Str x.name,encArgs x.args]
def rowX (x:Xtor):List WC:=(xcs x).map .p
theorem rowX_ok (b:Nat) (S:Sg) (x:Xtor):WOK b S (rowX x):=WOK.plain fun c hc=>by
 simp only [xcs,List.mem_cons,List.not_mem_nil,or_false] at hc
 rcases hc with rfl | rfl
 ·exact Pl.Str _
 exact Pl.SL _ _
theorem xcs_len (x:Xtor):(xcs x).length=2:=rfl
theorem fx_len (l:List Xtor):(l.flatMap xcs).length=l.length * 2:=by
 induction l with
 | nil=>rfl
 | cons a l ih=>rw [List.flatMap_cons,List.length_append,ih,xcs_len,List.length_cons];omega
theorem fx_nts (l:List Xtor):AV.nts (l.flatMap xcs)=true:=by
 induction l with
 | nil=>rfl
 | cons a l ih=>rw [List.flatMap_cons,nts_app,ih];rfl
def wX (l:List Xtor) (t:Nat):WC:=match l with
 | []=>.p (SL 2 [])
 | x :: l=>.w t 2 (x :: l).length ((x :: l).flatMap xcs)
def rowD (q:Decl × Nat):List WC:=[.p (Str q.1.name),.p (B q.1.codata),wX q.1.xtors q.2]
theorem wX_fz (l:List Xtor) (t:Nat):(wX l t).fz=SL 2 (l.map Xtor.enc):=by
 cases l with
 | nil=>rfl
 | cons x l=>exact congrArg (SL 2) (unfl_rows (by decide) xcs_len (fun _=>rfl) (x :: l))
theorem rowD_tk (q:Decl × Nat):toks (rowD q)=(wX q.1.xtors q.2).tk:=by simp [toks,rowD,WC.tk]
structure DM (b g:Nat) (S:Sg) (L:List (Decl × Nat)):Prop where
 mu:S.mu g=some ((L.flatMap rowD).map WC.av)
 ok:WOK b S (L.flatMap rowD)
 ng:g ∉ toks (L.flatMap rowD)
 lo:b ≤ g
 hi:g < S.mn
def DMs (b:Nat) (out:AV) (S:Sg) (L:List (Decl × Nat)):Prop:=(L=[] ∧ out=SL 3 []) ∨ L ≠ [] ∧ ∃ g,out=.ms g 0 L.length 3 ∧ DM b g S L
theorem rowD_len (L:List (Decl × Nat)):((L.flatMap rowD).map WC.av).length=L.length * 3:=by
 induction L with
 | nil=>rfl
 | cons a l ih=>rw [List.flatMap_cons,List.map_append,List.length_append,ih,List.length_cons];show 3 + _=_;omega
theorem av_split (A R:List (Decl × Nat)) (q:Decl × Nat):((A ++ q :: R).flatMap rowD).map WC.av=(A.flatMap rowD).map WC.av ++ (Str q.1.name :: B q.1.codata :: (wX q.1.xtors q.2).av :: (R.flatMap rowD).map WC.av):=by
 rw [List.flatMap_append,List.flatMap_cons,List.map_append,List.map_append]
 rfl
theorem wr_mid (l r:List AV) (x y z y':AV):wr (l ++ x :: y :: z :: r) (l.length + 1) [y']=l ++ x :: y' :: z :: r:=by
 have e:l ++ x :: y :: z :: r=(l ++ [x]) ++ (y :: z :: r):=by simp
 unfold wr
 rw [e,show l.length + 1=(l ++ [x]).length from by simp,List.take_left,List.length_singleton,show (l ++ [x]).length + 1=(l ++ [x,y]).length from by simp,show (l ++ [x]) ++ (y :: z :: r)=(l ++ [x,y]) ++ (z :: r) from by simp,List.drop_left]
 simp
theorem wr_two (l r:List AV) (x y y':AV):wr (l ++ x :: y :: r) (l.length + 1) [y']=l ++ x :: y' :: r:=by
 have e:l ++ x :: y :: r=(l ++ [x]) ++ (y :: r):=by simp
 unfold wr
 rw [e,show l.length + 1=(l ++ [x]).length from by simp,List.take_left,List.length_singleton,show (l ++ [x]).length + 1=(l ++ [x,y]).length from by simp,show (l ++ [x]) ++ (y :: r)=(l ++ [x,y]) ++ r from by simp,List.drop_left]
 simp
theorem toks_same {A R:List (Decl × Nat)} {q q':Decl × Nat} (h:(wX q'.1.xtors q'.2).tk=(wX q.1.xtors q.2).tk):toks ((A ++ q' :: R).flatMap rowD)=toks ((A ++ q :: R).flatMap rowD):=by
 have e:∀ l m:List WC,toks (l ++ m)=toks l ++ toks m:=fun _ _=>List.flatMap_append
 rw [List.flatMap_append,List.flatMap_append,List.flatMap_cons,List.flatMap_cons,e,e,e,e,rowD_tk,rowD_tk,h]
theorem DM.turn {b g t:Nat} {S:Sg} {A R:List (Decl × Nat)} {d:Decl} (h:DM b g S (A ++ (d,t) :: R)) (x:Bool) :
 DM b g { S with mu:=upd S.mu g (some (wr (((A ++ (d,t) :: R).flatMap rowD).map WC.av) (A.length * 3 + 1) [B x])) } (A ++ ({ d with codata:=x },t) :: R):=by
 have et:toks ((A ++ (({ d with codata:=x },t):Decl × Nat) :: R).flatMap rowD)=toks ((A ++ (d,t) :: R).flatMap rowD):=toks_same rfl
 refine ⟨?_,⟨fun w hw=>?_,by rw [et];exact h.ok.nd,fun u hu=>h.ok.tk u (by rw [← et];exact hu)⟩,by rw [et];exact h.ng,h.lo,h.hi⟩
 ·show upd S.mu g _ g=_
  rw [upd_same,av_split,av_split,← rowD_len A,wr_mid]
 have hk:w.ok S:=by
  rw [List.flatMap_append,List.flatMap_cons,List.mem_append,List.mem_append] at hw
  have hm:∀ w,w ∈ (A ++ (d,t) :: R).flatMap rowD ↔ w ∈ A.flatMap rowD ∨ w ∈ rowD (d,t) ∨ w ∈ R.flatMap rowD:=fun w=>by
   rw [List.flatMap_append,List.flatMap_cons,List.mem_append,List.mem_append]
  rcases hw with hw | hw | hw
  ·exact h.ok.ok w ((hm w).2 (.inl hw))
  ·simp only [rowD,List.mem_cons,List.not_mem_nil,or_false] at hw
   rcases hw with rfl | rfl | rfl
   ·exact Pl.Str _
   ·exact Pl.B _
   exact h.ok.ok _ ((hm _).2 (.inr (.inl (by simp [rowD]))))
  exact h.ok.ok w ((hm w).2 (.inr (.inr hw)))
 refine WC.ok_mono hk fun u hu=>upd_ne _ _ fun e=>h.ng ?_
 rw [← e,← et]
 exact mem_toks hw hu
theorem DM.at1 {b g t:Nat} {S:Sg} {A R:List (Decl × Nat)} {d:Decl} (h:DM b g S (A ++ (d,t) :: R)):rd none (((A ++ (d,t) :: R).flatMap rowD).map WC.av) (A.length * 3 + 1)=some (B d.codata):=by
 rw [av_split,← rowD_len A]
 simp [rd,List.getElem?_append_right]
theorem DM.at2 {b g t:Nat} {S:Sg} {A R:List (Decl × Nat)} {d:Decl} (h:DM b g S (A ++ (d,t) :: R)):rd none (((A ++ (d,t) :: R).flatMap rowD).map WC.av) (A.length * 3 + 2)=some (wX d.xtors t).av:=by
 rw [av_split,← rowD_len A]
 simp [rd,List.getElem?_append_right]
theorem DM.xt {b g t:Nat} {S:Sg} {A R:List (Decl × Nat)} {d:Decl} (h:DM b g S (A ++ (d,t) :: R)) {XA XR:List Xtor} {x:Xtor} (hx:d.xtors=XA ++ x :: XR) :
 (wX d.xtors t).av=.ms t 0 d.xtors.length 2 ∧ S.mu t=some (XA.flatMap xcs ++ Str x.name :: encArgs x.args :: XR.flatMap xcs) ∧ b ≤ t ∧ t < S.mn ∧ t ≠ g:=by
 have hw:wX d.xtors t=.w t 2 d.xtors.length (d.xtors.flatMap xcs):=by
  cases hd:d.xtors with
  | nil=>rw [hd] at hx;cases XA <;> cases hx
  | cons=>rfl
 have hm:wX d.xtors t ∈ (A ++ (d,t) :: R).flatMap rowD:=List.mem_flatMap.2 ⟨(d,t),by simp,by simp [rowD]⟩
 have hk:=h.ok.ok _ hm
 have htk:t ∈ toks ((A ++ (d,t) :: R).flatMap rowD):=mem_toks hm (by rw [hw];simp [WC.tk])
 rw [hw] at hk ⊢
 refine ⟨J,?_,(h.ok.tk t htk).1,(h.ok.tk t htk).2,fun e=>h.ng (e ▸ htk)⟩
 rw [hk.1,hx,List.flatMap_append,List.flatMap_cons]
 rfl
theorem DM.xst {b g t:Nat} {S:Sg} {A R:List (Decl × Nat)} {d:Decl} (h:DM b g S (A ++ (d,t) :: R)) {XA XR:List Xtor} {x:Xtor} (hx:d.xtors=XA ++ x :: XR) (as:List Arg) :
 DM b g { S with mu:=upd S.mu t (some (wr (XA.flatMap xcs ++ Str x.name :: encArgs x.args :: XR.flatMap xcs) (XA.length * 2 + 1) [encArgs as])) } (A ++ ({ d with xtors:=XA ++ ⟨x.name,as⟩ :: XR },t) :: R):=by
 obtain ⟨_,_,x3,x4,x5⟩:=h.xt hx
 have hw:∀ (l:List Xtor) (XA XR:List Xtor) (x:Xtor),l=XA ++ x :: XR → wX l t=.w t 2 l.length (l.flatMap xcs):=fun l XA XR x e=>by
  cases l with
  | nil=>cases XA <;> cases e
  | cons=>rfl
 have h1:=hw _ _ _ _ hx
 have h2:=hw (XA ++ ⟨x.name,as⟩ :: XR) _ _ _ rfl
 have et:toks ((A ++ (({ d with xtors:=XA ++ ⟨x.name,as⟩ :: XR },t):Decl × Nat) :: R).flatMap rowD)=toks ((A ++ (d,t) :: R).flatMap rowD):=toks_same (by rw [h1,h2];rfl)
 have e1:wr (XA.flatMap xcs ++ Str x.name :: encArgs x.args :: XR.flatMap xcs) (XA.length * 2 + 1) [encArgs as]=(XA ++ ⟨x.name,as⟩ :: XR).flatMap xcs:=by
  rw [← fx_len XA,wr_two,List.flatMap_append,List.flatMap_cons]
  rfl
 rw [e1]
 have hmid:toks ((A ++ (d,t) :: R).flatMap rowD)=toks (A.flatMap rowD) ++ t :: toks (R.flatMap rowD):=by
  have e:∀ l m:List WC,toks (l ++ m)=toks l ++ toks m:=fun _ _=>List.flatMap_append
  rw [List.flatMap_append,List.flatMap_cons,e,e,rowD_tk,h1]
  rfl
 have hnd:=h.ok.nd
 rw [hmid,List.nodup_append] at hnd
 obtain ⟨n1,n2,n3⟩:=hnd
 rw [List.nodup_cons] at n2
 refine ⟨?_,⟨fun w hw=>?_,by rw [et];exact h.ok.nd,fun u hu=>h.ok.tk u (by rw [← et];exact hu)⟩,by rw [et];exact h.ng,h.lo,h.hi⟩
 ·show upd S.mu t _ g=_
  rw [upd_ne _ _ (Ne.symm x5),h.mu,av_split,av_split,h1,h2]
  have:d.xtors.length=(XA ++ (⟨x.name,as⟩:Xtor) :: XR).length:=by rw [hx];simp
  simp only [WC.av,this]
 have hm:∀ w,w ∈ (A ++ (d,t) :: R).flatMap rowD ↔ w ∈ A.flatMap rowD ∨ w ∈ rowD (d,t) ∨ w ∈ R.flatMap rowD:=fun w=>by
  rw [List.flatMap_append,List.flatMap_cons,List.mem_append,List.mem_append]
 rw [List.flatMap_append,List.flatMap_cons,List.mem_append,List.mem_append] at hw
 rcases hw with hw | hw | hw
 ·exact WC.ok_mono (h.ok.ok w ((hm w).2 (.inl hw))) fun u hu=>upd_ne _ _ fun e=>n3 u (mem_toks hw hu) t (by simp) e
 ·simp only [rowD,List.mem_cons,List.not_mem_nil,or_false] at hw
  rcases hw with rfl | rfl | rfl
  ·exact Pl.Str _
  ·exact Pl.B _
  rw [h2]
  exact ⟨upd_same _ _ _,fx_len _,by decide,fx_nts _⟩
 exact WC.ok_mono (h.ok.ok w ((hm w).2 (.inr (.inr hw)))) fun u hu=>upd_ne _ _ fun e=>n2.1 (e ▸ mem_toks hw hu)
theorem AccD.xs {b:Nat} {out:AV} {l:List Xtor} {S:Sg} (h:AccD 2 b out l.length (rws rowX id l l.length) S):∃ t,out.er=(wX l t).av ∧ WOK b S [wX l t]:=by
 rcases h.2.2 with ⟨hl,rfl⟩ | ⟨hn,g,rfl,h2,h3,h4,h5⟩
 ·obtain rfl:=Lnl hl
  exact ⟨0,rfl,WOK.plain (as:=[SL 2 []]) fun c hc=>by rw [List.mem_singleton.1 hc];exact Pl.SL _ _⟩
 have hw:wX l g=.w g 2 l.length (l.flatMap xcs):=by
  cases l with
  | nil=>exact absurd rfl hn
  | cons=>rfl
 refine ⟨g,by rw [hw];rfl,⟨fun w hw2=>?_,?_,fun t ht=>?_⟩⟩
 ·rw [List.mem_singleton.1 hw2,hw]
  refine ⟨?_,fx_len _,by decide,fx_nts _⟩
  rw [h2,rws_all,List.map_id]
  congr 1
  rw [List.map_flatMap]
  have e:(fun a=>(rowX a).map WC.av)=xcs:=funext fun a=>map_av _
  rw [e]
 ·rw [hw];simp [toks,WC.tk]
 rw [hw] at ht
 obtain rfl:t=g:=by simpa [toks,WC.tk] using ht
 exact ⟨h3,h4⟩
theorem fill3 {x y o a b c:AV} (h:o.cells=[o]) (hx:x.cells=[x]) (hy:y.cells=[y]):fillA [a,b,c] [(0,1,x),(1,1,y),(2,1,o)]=some [x,y,o]:=by
 simp [fillA,h,hx,hy]
theorem rowD_ok {b:Nat} {S:Sg} {d:Decl} {t:Nat} (h:WOK b S [wX d.xtors t]):WOK b S (rowD (d,t)):=by
 refine ⟨fun w hw=>?_,?_,fun u hu=>?_⟩
 ·simp only [rowD,List.mem_cons,List.not_mem_nil,or_false] at hw
  rcases hw with rfl | rfl | rfl
  ·exact Pl.Str _
  ·exact Pl.B _
  exact h.ok _ (by simp)
 ·rw [rowD_tk]
  have:=h.nd
  simpa [toks] using this
 rw [rowD_tk] at hu
 exact h.tk u (by simpa [toks] using hu)
theorem take_fst {l:List Decl} {L:List (Decl × Nat)} {i t:Nat} {a:Decl} (h:L.map (·.1)=l.take i) (ha:l[i]?=some a):(L ++ [(a,t)]).map (·.1)=l.take (i + 1):=by
 rw [List.map_append,h,List.take_add_one,ha]
 rfl
theorem AccD.res {b:Nat} {out:AV} {L:List (Decl × Nat)} {S:Sg} (h:AccD 3 b out L.length (L.flatMap rowD) S):DMs b out.er S L:=by
 rcases h.2.2 with ⟨hl,rfl⟩ | ⟨hn,g,rfl,h2,h3,h4,h5⟩
 ·exact .inl ⟨Lnl hl,rfl⟩
 exact .inr ⟨fun e=>hn (by rw [e];rfl),g,rfl,h2,h.2.1,h5,h3,h4⟩
theorem rCo_l2 (L5:List AV) (l:List Xtor) (S0:Sg) (hx:∀ x ∈ l,x.args.length ≤ 2 ^ 30) (out:AV) (i:Nat) (hi:i ≤ l.length) (hs:l.length ≤ 2 ^ 40) {x3 x9 x10 x11:AV} {n:Nat} {v:Nat → Bool} {D:List (Nat × List AV)} {S:Sg} {Q:Ex → Fr → Prop}
 (hE0:ExtM S0 S) (hA:AccD 2 S0.mn out i (rws rowX id l i) S) (hX:∀ j out' n' v' S',AccD 2 S0.mn out' l.length (rws rowX id l l.length) S' → ExtM S0 S' → Q (.exit 2) ⟨uv (upd (uv (uv (uv (uv (uv (uv (uv (uv e0 19 (B false)) 18 (I j)) 17 (I (l.map Xtor.enc).length)) 16 (.slice .none 2 (l.map Xtor.enc))) 11 (x11)) 10 (x10)) 9 (x9)) 6 (out')) 5 (some (.loc 5 0))) 3 (x3),upd ((fun _=>none)) 5 (some (L5)),n',v',D,S'⟩):EX (callL p) (.loop F46_l2) ⟨uv (upd (uv (uv (uv (uv (uv (uv (uv e0 18 (I i)) 17 (I (l.map Xtor.enc).length)) 16 (.slice .none 2 (l.map Xtor.enc))) 11 (x11)) 10 (x10)) 9 (x9)) 6 (out)) 5 (some (.loc 5 0))) 3 (x3),upd ((fun _=>none)) 5 (some (L5)),n,v,D,S⟩ Q:=by
 refine eloop (er (qp J (qb ?_)))
 rintro (_ | _) h1
 ·refine qn (kq10 J) (kq1 J) (eseq (ecF J (eexit (sqx ?_))))
  have he:i=l.length:=by simp at h1;omega
  subst he
  exact hX _ _ _ _ _ hA hE0
 refine qn (kq10 J) (kq1 J) (eseq (ecT J (eskip (sqn (eseq (eblock (er ?_)))))))
 have hlt:i < l.length:=by simpa using h1
 obtain ⟨a,ha⟩:=get_of_lt hlt
 have hd:=drop_cons ha
 refine hia (y:=.agg [Str a.name,encArgs a.args]) rfl rfl (by omega) (by simp [ha,Xtor.enc]) rfl (hlda rfl rfl (lc rfl (lc rfl (ln rfl))) (hal (dc (dc (dc (dc (dc (dc (dc (dc (dc (dc (dc (dc dn rfl) rfl) rfl) rfl) rfl) rfl) rfl) rfl) rfl) rfl) rfl) rfl) (hstl rfl rfl rfl rfl (Nlb rfl) (lc rfl (lc rfl (ln rfl))) (qk (kc rfl (kc rfl (kc rfl (kc rfl (kc rfl (kc rfl (kc rfl (kc rfl (kc rfl (kc rfl kn)))))))))) (kc rfl (kc rfl kn)) (sqn (ereg (qp rfl (qp rfl (qp rfl (qp rfl (qp rfl (hapK rfl rfl (by have:=hx a (Lmg ha);simp;omega) ?_))))))))))))
 intro o1 n1 v1 hn1 hk1
 refine hbuild J J (lq2 J) (hbsl J J (lq1 J) ?_)
 obtain ⟨out2,S2,w1,w2,w3⟩:=appm_d (by_:=40) (v:=AV.agg (xcs a)) (r:=rowX a) hA hE0 (ExtM.refl S) (rowX_ok _ _ _) rfl (by omega) (map_av _).symm
 refine hwop J w1 (qp J (qk (kq9 J) (kq1 J) (bqn (sqn (ereg (hadd J J (i64w (by omega)) (qp J (qk (kq9 J) (kq1 J) ?_))))))))
 exact rCo_l2 L5 l S0 hx out2 (i + 1) (by omega) hs w3 (by rw [← rws_succ ha];exact w2) hX
termination_by l.length - i
decreasing_by all_goals omega
theorem rCo_l1 (l:List Decl) (S0:Sg) (hxa:∀ d ∈ l,∀ x ∈ d.xtors,x.args.length ≤ 2 ^ 30) (hxl:∀ d ∈ l,d.xtors.length ≤ 2 ^ 30) (out:AV) (L:List (Decl × Nat)) (i:Nat) (hi:i ≤ l.length) (hs:l.length ≤ 2 ^ 40) {n:Nat} {v:Nat → Bool} {D:List (Nat × List AV)} {S:Sg} {Q:Ex → Fr → Prop}
 (hE0:ExtM S0 S) (hA:AccD 3 S0.mn out L.length (L.flatMap rowD) S) (hL:L.map (·.1)=l.take i) (hX:∀ j out' n' v' S' (L':List (Decl × Nat)),AccD 3 S0.mn out' L'.length (L'.flatMap rowD) S' → L'.map (·.1)=l → ExtM S0 S' → Q (.exit 0) ⟨uv (uv (uv (uv (uv e0 12 (B false)) 11 (I j)) 10 (I (l.map Decl.enc).length)) 9 (.slice .none 3 (l.map Decl.enc))) 3 (out'),(fun _=>none),n',v',D,S'⟩):EX (callL p) (.loop F46_l1) ⟨uv (uv (uv (uv e0 11 (I i)) 10 (I (l.map Decl.enc).length)) 9 (.slice .none 3 (l.map Decl.enc))) 3 (out),(fun _=>none),n,v,D,S⟩ Q:=by
 refine eloop (er (qp J (qb ?_)))
 rintro (_ | _) h1
 ·refine qn (kq5 J) kn (eseq (ecF J (eexit (sqx ?_))))
  have he:i=l.length:=by simp at h1;omega
  subst he
  rw [List.take_length] at hL
  exact hX _ _ _ _ _ _ hA hL hE0
 refine qn (kq5 J) kn (eseq (ecT J (eskip (sqn (eseq (eblock (er ?_)))))))
 have hlt:i < l.length:=by simpa using h1
 obtain ⟨a,ha⟩:=get_of_lt hlt
 have hd:=drop_cons ha
 refine hia (y:=.agg [Str a.name,B a.codata,SL 2 (a.xtors.map Xtor.enc)]) rfl rfl (by omega) (by simp [ha,Decl.enc]) rfl (hlda rfl rfl (lc rfl (lc rfl (lc rfl (ln rfl)))) (hal (dc (dc (dc (dc (dc (dc (dc dn rfl) rfl) rfl) rfl) rfl) rfl) rfl) (hstl rfl rfl rfl rfl (Nlb rfl) (lc rfl (lc rfl (lc rfl (ln rfl)))) (qk (kc rfl (kc rfl (kc rfl (kc rfl (kc rfl kn))))) (kc rfl kn) (sqn (eseq (ereg (qp rfl (qk (kc rfl (kc rfl (kc rfl (kc rfl (kc rfl (kc rfl kn)))))) (kc rfl kn) (sqn (eseq (eseq (ereg (qp rfl (qp rfl (qp rfl (qp rfl (qk (kc rfl (kc rfl (kc rfl (kc rfl (kc rfl (kc rfl (kc rfl (kc rfl (kc rfl kn))))))))) (kc rfl kn) (sqn (eblock (rCo_l2 _ a.xtors S (hxa a (Lmg ha)) (.slice .full 2 []) 0 (by omega) (by have:=hxl a (Lmg ha);omega) (ExtM.refl _) AccD.nil ?_)))))))))))))))))))))
 intro j outX n1 v1 S1 hX1 hE1
 refine bqx (sqn (ereg (pq6 J (hbuild J (fill3 hX1.c1 J J) J (hbsl J J (lq1 J) ?_)))))
 obtain ⟨t,ht1,ht2⟩:=hX1.xs
 obtain ⟨out2,S2,w1,w2,w3⟩:=appm_d (by_:=48) (v:=.agg [Str a.name,B a.codata,outX.er]) (r:=rowD (a,t)) hA hE0 hE1 (rowD_ok ht2) rfl (by have:=congrArg List.length hL;simp at this;omega) (by rw [ht1];rfl)
 refine hwop J w1 (qp J (qk (kq4 J) kn (bqn (sqn (ereg (hadd J J (i64w (by omega)) (qp J (qk (kq4 J) kn ?_))))))))
 exact rCo_l1 l S0 hxa hxl out2 (L ++ [(a,t)]) (i + 1) (by omega) hs w3 (by rw [List.length_append,List.flatMap_append,List.flatMap_singleton];exact w2) (take_fst hL ha) hX
termination_by l.length - i
decreasing_by all_goals omega
theorem rCopy_c (l:List Decl) (hs:l.length ≤ 2 ^ 40) (hxa:∀ d ∈ l,∀ x ∈ d.xtors,x.args.length ≤ 2 ^ 30) (hxl:∀ d ∈ l,d.xtors.length ≤ 2 ^ 30) (s:Sg):HC p N46_ [SL 3 (l.map Decl.enc)] s (fun r s'=>∃ out L,r=[out] ∧ DMs s.mn out s' L ∧ L.map (·.1)=l ∧ ExtM s s'):=by
 refine hcf J f46_ J ?_
 simp only [chainOf]
 refine er (qp J (qn (kq1 J) kn (er (qp J (qn (kq2 J) kn (eseq (er (pq3 J (qn (kq4 J) kn (eblock (rCo_l1 l s hxa hxl (.slice .full 3 []) [] 0 (by omega) hs (ExtM.refl _) AccD.nil J ?_)))))))))))
 intro j out n1 v1 S1 L hA hL hE
 refine bqx (sqn (er (pq2 J (qn (kq1 J) kn (eret (fqr J ?_))))))
 exact ⟨_,L,rfl,hA.res,hL,hE⟩
end Go.Sim.Kd
namespace Go.Sim.Kd
open Go Go.Sim
section
variable {c:Caller} {l:List AIns} {E:Nat → Option TV} {L:Nat → Option (List AV)} {n:Nat} {v:Nat → Bool} {D:List (Nat × List AV)} {S:Sg} {Q:Fr → Prop}
theorem hlenA {d:Nat} {st:Bool} {x:AO} {a y:AV} (h1:evV E x=some a) (h2:lenOfA st a=some y) (k:HL c l ⟨upd E d (some (.val y)),L,n,v,D,S⟩ Q):HL c (⟨some d,none,.len st x⟩ :: l) ⟨E,L,n,v,D,S⟩ Q :=
 hop (by simp only [ins,run1,aop,h1,h2,Obs];rfl) k
theorem hldq {d rt g o ln z off:Nat} {m:Option Nat} {a:AO} {cs:List AV} {y:AV} (h0:E rt=some (.val (.ms g o ln z))) (h1:ev E a=some (.val (.mp g off))) (h2:S.mu g=some cs) (h3:rd m cs off=some y)
 (k:HL c l ⟨upd E d (some (.val y)),L,n,v,D,S⟩ Q):HL c (⟨some d,none,.ldo true rt m a⟩ :: l) ⟨E,L,n,v,D,S⟩ Q :=
 hop (by simp only [ins,run1,aop,h0,h1,Obs,ldoAt,if_true,h2,h3];rfl) k
end
theorem hcallk {p:Pg} {E:Nat → Option TV} {L:Nat → Option (List AV)} {n:Nat} {v:Nat → Bool} {D:List (Nat × List AV)} {S:Sg} {l:List AIns} {Q:Fr → Prop} {d:Nat} {ks:List Nat} {f:AO} {as:List AO} {g:Nat} {a b q q':List AV} {R:List AV → Sg → Prop}
 (h1:evV E f=some (.fn g a b)) (h2:evVs E as=some q) (h3:AV.ers (a ++ q ++ b)=q') (h4:HC p g q' S R) (hq:∀ res S',R res S' → keeps E S S' ks) (k:∀ res S',R res S' → HL (callL p) l ⟨upd E d (some (toTV res)),L,n,v,D,S'⟩ Q) :
 HL (callL p) (⟨some d,none,.callq ks f as⟩ :: l) ⟨E,L,n,v,D,S⟩ Q:=by
 subst h3
 obtain ⟨res,S',h5,h6⟩:=h4
 refine hop ?_ (k res S' h6)
 simp only [ins,run1,aop,h1,h2,Obs,callOf,h5,qres]
 rw [if_pos (hq res S' h6)]
 rfl
theorem xAt {XA:List Xtor} {a b:AV} {r:List AV}:rd none (XA.flatMap xcs ++ a :: b :: r) (XA.length * 2 + 1)=some b:=by
 rw [← fx_len XA]
 simp [rd,List.getElem?_append_right]
def dPair (q:Decl × Nat):Decl × Nat:=(dDecl q.1,q.2)
def curD (L:List (Decl × Nat)) (i:Nat):List (Decl × Nat):=(L.take i).map dPair ++ L.drop i
theorem curD_at {L:List (Decl × Nat)} {i:Nat} {q:Decl × Nat} (h:L[i]?=some q):curD L i=(L.take i).map dPair ++ (q.1,q.2) :: L.drop (i + 1):=by
 unfold curD
 rw [drop_cons h]
theorem curD_up {L:List (Decl × Nat)} {i:Nat} {q:Decl × Nat} (h:L[i]?=some q):curD L (i + 1)=(L.take i).map dPair ++ (dDecl q.1,q.2) :: L.drop (i + 1):=by
 unfold curD
 rw [List.take_add_one,h,List.map_append]
 simp [dPair]
theorem curD_len {L:List (Decl × Nat)} {i:Nat}:(curD L i).length=L.length:=by
 unfold curD
 simp
 omega
theorem lenD {b:Nat} {out:AV} {S:Sg} {L:List (Decl × Nat)} (h:DMs b out S L):lenOfA false out=some (I L.length):=by
 rcases h with ⟨rfl,rfl⟩ | ⟨_,g,rfl,_⟩ <;> rfl
theorem lenX (l:List Xtor) (t:Nat):lenOfA false (wX l t).av=some (I l.length):=by
 cases l <;> rfl
theorem DMs.frz {b:Nat} {out:AV} {S:Sg} {L:List (Decl × Nat)} (h:DMs b out S L):∃ o m,frzD 2 S out=some (.slice o 3 ((L.map (·.1)).map Decl.enc),{ S with mu:=m }) ∧ ∀ k,k < b → m k=S.mu k:=by
 rcases h with ⟨rfl,rfl⟩ | ⟨hn,g,rfl,h⟩
 ·exact ⟨.none,S.mu,by simp only [frzD];rfl,fun _ _=>rfl⟩
 have hl:=rowD_len L
 rw [List.length_map] at hl
 obtain ⟨o,m,h1,h2⟩:=frz_d (S:=S) ⟨hl,h.ok,.inr ⟨fun e=>hn (Lnl e),g,rfl,h.mu,h.lo,h.hi,h.ng⟩⟩ (ExtM.refl S) (by decide)
 refine ⟨o,m,?_,fun k hk=>h2 k (.inl hk)⟩
 rw [h1]
 have e:(L.flatMap rowD).map WC.fz=(L.map (·.1)).flatMap fun d=>[Str d.name,B d.codata,SL 2 (d.xtors.map Xtor.enc)]:=by
  rw [List.map_flatMap,List.flatMap_map]
  congr 1
  funext q
  simp only [rowD,List.map_cons,List.map_nil,wX_fz]
  rfl
 rw [e]
 have e2:=unfl_rows (sz:=3) (cs:=fun d:Decl=>[Str d.name,B d.codata,SL 2 (d.xtors.map Xtor.enc)]) (enc:=Decl.enc) (by decide) (fun _=>rfl) (fun _=>rfl) (L.map (·.1))
 rw [List.length_map] at e2
 rw [e2]
theorem rDe_l2 (A R:List (Decl × Nat)) (nm:ByteArray) (cd:Bool) (t g N i:Nat) (S0:Sg) (XR:List Xtor) (XA:List Xtor) (k m:Nat) (hk:XA.length=k) (hm:m=k + XR.length) (hi:A.length=i) (hN:i < N) (hs:m ≤ 2 ^ 40) (hx:∀ x ∈ XR,x.args.length ≤ 2 ^ 30) {x9:AV} {n:Nat} {v:Nat → Bool} {D:List (Nat × List AV)} {S:Sg} {Q:Ex → Fr → Prop}
 (hE0:ExtM S0 S) (hD:DM S0.mn g S (A ++ (⟨nm,cd,XA ++ XR⟩,t) :: R)) (hX:∀ j S',DM S0.mn g S' (A ++ (⟨nm,cd,XA ++ XR.map dXtor⟩,t) :: R) → ExtM S0 S' → Q (.exit 2) ⟨uv (uv (uv (uv (uv (uv (uv e0 30 (B false)) 29 (I j)) 28 (I m)) 10 (I i)) 9 (x9)) 4 (I i)) 3 (.ms g 0 N 3),(fun _=>none),n,v,D,S'⟩):EX (callL p) (.loop F43_l2) ⟨uv (uv (uv (uv (uv (uv e0 29 (I k)) 28 (I m)) 10 (I i)) 9 (x9)) 4 (I i)) 3 (.ms g 0 N 3),(fun _=>none),n,v,D,S⟩ Q:=by
 refine eloop (er (qp J (qb ?_)))
 rintro (_ | _) h1
 ·refine qn (kq7 J) kn (eseq (ecF J (eexit (sqx ?_))))
  have e:XR=[]:=Lnl (by simp at h1;omega)
  subst e
  exact hX _ _ hD hE0
 refine qn (kq7 J) kn (eseq (ecT J (eskip (sqn (eseq (eblock (er (pq2 J (qn (kq7 J) kn (ereg ?_))))))))))
 obtain ⟨x,XR',rfl⟩:∃ x XR',XR=x :: XR':=by
  cases XR with
  | nil=>simp at h1 hm;omega
  | cons x XR'=>exact ⟨x,XR',rfl⟩
 have hm2:m=k + 1 + XR'.length:=by simp at hm;omega
 obtain ⟨x1,x2,x3,x4,x5⟩:=hD.xt (XA:=XA) (XR:=XR') (x:=x) rfl
 have hD2:=hD.xst (XA:=XA) (XR:=XR') (x:=x) rfl (x.args.map dArg)
 have a2:=hD.at2.trans (congrArg some x1)
 refine qp rfl (qp rfl (hiam rfl rfl (by omega) (by omega) (qp rfl (hldq rfl rfl hD.mu (y:=.ms t 0 (XA ++ x :: XR').length 2) (by rw [← a2,hi];congr 1;simp) (qp rfl (qp rfl (qp rfl (hiam rfl rfl (by omega) (by omega) (qp rfl (hldm rfl hD.mu (y:=.ms t 0 (XA ++ x :: XR').length 2) (by rw [← a2,hi];congr 1;simp) (qp rfl (hiam rfl rfl (by omega) (by simp;omega) (qp rfl (hldm rfl x2 (y:=encArgs x.args) (by subst hk;rw [show 0 + ((XA.length:Nat):Int).toNat * 2 + 1=XA.length * 2 + 1 from by simp];exact xAt) (hcallk rfl rfl rfl (rargs_c x.args (hx x (by simp)) _) (by rintro _ _ ⟨_,rfl⟩;exact ⟨.inr ⟨_,_,_,_,rfl,rfl⟩,rfl⟩) ?_)))))))))))))))
 rintro _ _ ⟨rfl,hq⟩
 obtain rfl:=hq.symm
 refine hiam rfl rfl (by omega) (by simp;omega) (qp rfl (hstm rfl rfl x2 rfl (by rw [List.length_append,fx_len,List.length_cons,List.length_cons,fx_len];show 0 + (k:Int).toNat * 2 + 1 + 1 ≤ _;omega) (by simp) (cs':=wr (XA.flatMap xcs ++ Str x.name :: encArgs x.args :: XR'.flatMap xcs) (XA.length * 2 + 1) [encArgs (x.args.map dArg)]) (by subst hk;congr 1;simp) (qk (kc rfl (kc rfl (kc rfl (kc rfl (kc rfl (kc rfl kn)))))) kn (bqn (sqn (ereg (hadd rfl rfl (i64w (by omega)) (qp rfl (qk (kc rfl (kc rfl (kc rfl (kc rfl (kc rfl (kc rfl kn)))))) kn ?_)))))))))
 exact rDe_l2 A R nm cd t g N i S0 XR' (XA ++ [dXtor x]) (k + 1) m (by simp [hk]) (by simp at hm ⊢;omega) hi hN hs (fun y hy=>hx y (by simp [hy])) (hE0.mus x3) (by rw [List.append_assoc];exact hD2) (fun j S' h=>hX j S' (by rw [List.append_assoc] at h;exact h))
termination_by XR.length
decreasing_by all_goals omega
theorem rDe_l1 (l:List (Decl × Nat)) (S0:Sg) (out:AV) (i:Nat) (hi:i ≤ l.length) (hs:l.length ≤ 2 ^ 40) {n:Nat} {v:Nat → Bool} {D:List (Nat × List AV)} {S:Sg} {Q:Ex → Fr → Prop}
 (hE0:ExtM S0 S) (hD:DMs S0.mn out S (curD l i)) (hxa:∀ q ∈ l,∀ x ∈ q.1.xtors,x.args.length ≤ 2 ^ 30) (hxl:∀ q ∈ l,q.1.xtors.length ≤ 2 ^ 30) (hX:∀ j S',DMs S0.mn out S' (l.map dPair) → ExtM S0 S' → Q (.exit 0) ⟨uv (uv (uv (uv e0 11 (B false)) 10 (I j)) 9 (I l.length)) 3 (out),(fun _=>none),n,v,D,S'⟩):EX (callL p) (.loop F43_l1) ⟨uv (uv (uv e0 10 (I i)) 9 (I l.length)) 3 (out),(fun _=>none),n,v,D,S⟩ Q:=by
 refine eloop (er (qp J (qb ?_)))
 rintro (_ | _) h1
 ·refine qn (kq4 J) kn (eseq (ecF J (eexit (sqx ?_))))
  have he:i=l.length:=by simp at h1;omega
  subst he
  unfold curD at hD
  rw [List.take_length,List.drop_length,List.append_nil] at hD
  exact hX _ _ hD hE0
 refine qn (kq4 J) kn (eseq (ecT J (eskip (sqn (eseq (eblock (er (pq2 J (qn (kq4 J) kn (er ?_))))))))))
 have hlt:i < l.length:=by simpa using h1
 obtain ⟨a,ha⟩:=get_of_lt hlt
 rcases hD with ⟨e,_⟩ | ⟨_,g,rfl,hg⟩
 ·rw [curD_at ha] at e;simp at e
 have hcl:(curD l i).length=l.length:=curD_len
 have hAl:((l.take i).map dPair).length=i:=by simp;omega
 rw [curD_at ha] at hg
 have hg3:=hg.turn (!a.1.codata)
 rw [hAl] at hg3
 refine qp rfl (qp rfl (qp rfl (qp rfl (hiam rfl rfl (by omega) (by omega) (qp rfl (hldm rfl hg.mu (y:=B a.1.codata) (by rw [← hg.at1,hAl];congr 1;simp) (qp rfl (hiam rfl rfl (by omega) (by omega) (qp rfl (hstm rfl rfl hg.mu rfl (by rw [rowD_len];show 0 + (i:Int).toNat * 3 + 1 + 1 ≤ _;rw [List.length_append,List.length_cons,hAl];omega) (by simp) (cs':=wr ((((l.take i).map dPair ++ (a.1,a.2) :: l.drop (i + 1)).flatMap rowD).map WC.av) (i * 3 + 1) [B (!a.1.codata)]) (by congr 1;simp) (qk (kc rfl (kc rfl (kc rfl (kc rfl kn)))) kn (sqn (eseq (ereg (qp rfl (qp rfl (hiam rfl rfl (by omega) (by omega) (qp rfl (hldm rfl hg3.mu (y:=(wX a.1.xtors a.2).av) (by rw [← hg3.at2,hAl];congr 1;simp) (hlenA rfl (lenX _ _) (qp rfl (qk (kc rfl (kc rfl (kc rfl (kc rfl (kc rfl (kc rfl kn)))))) kn (sqn ?_)))))))))))))))))))))))
 refine eblock (rDe_l2 ((l.take i).map dPair) (l.drop (i + 1)) a.1.name (!a.1.codata) a.2 g (curD l i).length i S0 a.1.xtors [] 0 a.1.xtors.length rfl (by omega) (by simp;omega) (by omega) (by have:=hxl a (Lmg ha);omega) (hxa a (Lmg ha)) (hE0.mus hg.lo) hg3 ?_)
 intro j S2 hg2 hE2
 refine bqx (bqn (sqn (ereg (hadd J J (i64w (by omega)) (qp J (qk (kq3 J) kn ?_))))))
 exact rDe_l1 l S0 _ (i + 1) (by omega) hs hE2 (by rw [curD_up ha];exact .inr ⟨by simp,g,by rw [← curD_up ha,curD_len,curD_len],hg2⟩) hxa hxl hX
termination_by l.length - i
decreasing_by all_goals omega
theorem rDecls_c (l:List Decl) (hs:l.length ≤ 2 ^ 40) (hxa:∀ d ∈ l,∀ x ∈ d.xtors,x.args.length ≤ 2 ^ 30) (hxl:∀ d ∈ l,d.xtors.length ≤ 2 ^ 30) (s:Sg):HC p N43_ [SL 3 (l.map Decl.enc)] s (fun r s'=>r=[SL 3 ((l.map dDecl).map Decl.enc)] ∧ ExtM s s'):=by
 refine hcf J f43_ J ?_
 simp only [chainOf]
 refine er (qp J (qn (kq1 J) kn (er (qp J (hcall J J J (rCopy_c l hs hxa hxl _) ?_)))))
 rintro _ S1 ⟨out,L,rfl,hD,hL,hE⟩
 refine qp rfl (qk (kc rfl kn) kn (sqn (eseq (eseq (ereg (qp rfl (hlenA rfl (lenD hD) (qp rfl (qk (kc rfl (kc rfl (kc rfl kn))) kn (sqn (eblock (rDe_l1 L s out 0 (by omega) (by rw [← List.length_map (f:=(·.1)),hL];exact hs) hE (by unfold curD;simpa using hD) (fun q hq=>hxa q.1 (by rw [← hL];exact List.mem_map_of_mem hq)) (fun q hq=>hxl q.1 (by rw [← hL];exact List.mem_map_of_mem hq)) ?_))))))))))))
 intro j S2 hD2 hE2
 refine bqx (sqn (er (pq2 J (qn (kq1 J) kn ?_))))
 obtain ⟨o,m,w1,w2⟩:=hD2.frz
 refine eretz_env J J w1 (fqr J ?_)
 refine ⟨?_,hE2.muX w2⟩
 rw [show (L.map dPair).map (fun q=>q.1)=l.map dDecl from by rw [← hL,List.map_map,List.map_map];rfl]
 rfl
def fcsF (g:CFun):List AV:=Str g.name :: encArgs g.params :: ints g.vars :: g.body.cs
def rowF (g:CFun):List WC:=(fcsF g).map .p
theorem rowF_ok (b:Nat) (S:Sg) (g:CFun):WOK b S (rowF g):=WOK.plain fun c hc=>by
 simp only [fcsF,List.mem_cons] at hc
 rcases hc with rfl | rfl | rfl | hc
 ·exact Pl.Str _
 ·exact Pl.SL _ _
 ·exact Pl.SL _ _
 exact cs_pl _ c hc
theorem rowF_fz (gs:List CFun):(gs.flatMap rowF).map WC.fz=gs.flatMap fcsF:=by
 rw [List.map_flatMap]
 have e:(fun a=>(rowF a).map WC.fz)=fcsF:=funext fun a=>map_fz _
 rw [e]
theorem rDu_l1 (dd:AV) (L2:List AV) (l:List CFun) (S0:Sg) (h30:l.length ≤ 2 ^ 30) (hfp:∀ g ∈ l,g.params.length ≤ 2 ^ 30) (H:∀ g ∈ l,RNode g.body) (out:AV) (i:Nat) (hi:i ≤ l.length) (hs:l.length ≤ 2 ^ 40) {n:Nat} {v:Nat → Bool} {D:List (Nat × List AV)} {S:Sg} {Q:Ex → Fr → Prop}
 (hE0:ExtM S0 S) (hA:AccD 8 S0.mn out i (rws rowF dFun l i) S) (hX:∀ j out' S',AccD 8 S0.mn out' l.length (rws rowF dFun l l.length) S' → ExtM S0 S' → Q (.exit 0) ⟨upd (upd (uv (uv (uv (uv e0 14 (B false)) 13 (I j)) 12 (I (l.map CFun.enc).length)) 11 (.slice .none 8 (l.map CFun.enc))) 3 (some (.loc 3 0))) 2 (some (.loc 2 0)),upd (upd ((fun _=>none)) 3 (some ([dd,out']))) 2 (some (L2)),n,v,D,S'⟩):EX (callL p) (.loop F13_l1) ⟨upd (upd (uv (uv (uv e0 13 (I i)) 12 (I (l.map CFun.enc).length)) 11 (.slice .none 8 (l.map CFun.enc))) 3 (some (.loc 3 0))) 2 (some (.loc 2 0)),upd (upd ((fun _=>none)) 3 (some ([dd,out]))) 2 (some (L2)),n,v,D,S⟩ Q:=by
 refine eloop (er (qp J (qb ?_)))
 rintro (_ | _) h1
 ·refine qn (kq6 J) (kq2 J) (eseq (ecF J (eexit (sqx ?_))))
  have he:i=l.length:=by simp at h1;omega
  subst he
  exact hX _ _ _ hA hE0
 refine qn (kq6 J) (kq2 J) (eseq (ecT J (eskip (sqn (eseq (eblock (er ?_)))))))
 have hlt:i < l.length:=by simpa using h1
 obtain ⟨a,ha⟩:=get_of_lt hlt
 have hd:=drop_cons ha
 refine hia (y:=.agg (Str a.name :: encArgs a.params :: ints a.vars :: a.body.cs)) rfl rfl (by omega) (by simp [ha,CFun.enc_eq]) rfl (hlda rfl rfl (lc rfl (lc rfl (lc rfl (lc rfl (lc rfl (lc rfl (lc rfl (lc rfl (ln rfl))))))))) (hal (dc (dc (dc (dc (dc (dc (dc (dc dn rfl) rfl) rfl) rfl) rfl) rfl) rfl) rfl) (hstl rfl rfl rfl rfl (Nlb rfl) (lc rfl (lc rfl (lc rfl (lc rfl (lc rfl (lc rfl (lc rfl (lc rfl (ln rfl))))))))) (qk (kc rfl (kc rfl (kc rfl (kc rfl (kc rfl (kc rfl kn)))))) (kc rfl (kc rfl (kc rfl kn))) (sqn (ereg (qp rfl (qp rfl (qp rfl (qp rfl (qp rfl (qp rfl (hcall rfl rfl rfl (rargs_c a.params (hfp a (Lmg ha)) _) ?_)))))))))))))
 rintro _ _ ⟨rfl,hq⟩
 obtain rfl:=hq.symm
 refine pq3 J (hlda J J (lq5 J) (hcall J J J (H a (Lmg ha) _) ?_))
 rintro _ S1 ⟨rfl,hE⟩
 refine hbuild J J (lq8 J) (hbsl J J (lq1 J) ?_)
 obtain ⟨out2,S2,w1,w2,w3⟩:=appm_d (by_:=136) (v:=.agg (fcsF (dFun a))) (r:=rowF (dFun a)) hA hE0 hE (rowF_ok _ _ _) rfl (by omega) (map_av _).symm
 refine hwop rfl w1 (qp rfl (hstl rfl rfl rfl (by rw [w2.c1];rfl) (by rw [w2.c1];exact Nlb rfl) (show _=[dd,out2] by rw [w2.c1];rfl) (qk (kq5 rfl) (kq2 rfl) (bqn (sqn (ereg (hadd rfl rfl (i64w (by omega)) (qp rfl (qk (kq5 rfl) (kq2 rfl) ?_)))))))))
 exact rDu_l1 dd L2 l S0 h30 hfp H out2 (i + 1) (by omega) hs w3 (by rw [← rws_succ ha];exact w2) hX
termination_by l.length - i
decreasing_by all_goals omega
theorem rDual_c0 (c:Core) (hdl:c.decls.length ≤ 2 ^ 30) (hxl:∀ d ∈ c.decls,d.xtors.length ≤ 2 ^ 30) (hxa:∀ d ∈ c.decls,∀ x ∈ d.xtors,x.args.length ≤ 2 ^ 30) (hfl:c.funs.length ≤ 2 ^ 30) (hfp:∀ g ∈ c.funs,g.params.length ≤ 2 ^ 30) (H:∀ g ∈ c.funs,RNode g.body) (s:Sg):HC p N13_ [.agg (Core.cs c)] s (fun r s'=>r=[.agg (Core.cs (dualC c))] ∧ ExtM s s'):=by
 refine hcf J f13_ J ?_
 simp only [chainOf]
 refine er (hbox (dc dn J) J (lq2 J) (hal (dq2 J) (qn (kq2 J) (kq2 J) (er (pq2 J (hcall J J J (rDecls_c c.decls (by omega) hxa hxl _) ?_))))))
 rintro _ S1 ⟨rfl,hE⟩
 refine hbuild J J (lq2 J) (hal (dq6 J) (hstl J J J J (Nlb J) (lq2 J) (qn (kq3 J) (kq3 J) (eseq (er (pq4 J (qn (kq5 J) (kq2 J) (eblock (rDu_l1 _ _ c.funs S1 hfl hfp H (.slice .full 8 []) 0 (by omega) (by omega) (ExtM.refl _) AccD.nil ?_)))))))))
 intro j out S2 hA hE2
 refine bqx (sqn (er (hlda J J (lq2 J) (hstl J J J J (Nlb J) (lq2 J) (qn (kq1 J) (kq1 J) ?_)))))
 obtain ⟨o,m,w1,w2⟩:=frz_d hA (ExtM.refl _) (by decide)
 refine eretz_loc rfl (ds:=[SL 3 ((c.decls.map dDecl).map Decl.enc),.slice o 8 (unfl 8 c.funs.length ((rws rowF dFun c.funs c.funs.length).map WC.fz))]) (by simp only [frzDL,(Pl.SL _ _).fz,Obs,w1];rfl) (fqr rfl ?_)
 refine ⟨?_,(hE.trans hE2).muX fun k hk=>w2 k (.inl (Nat.lt_of_lt_of_le hk hE.mn))⟩
 rw [rws_all,rowF_fz]
 have e:=unfl_rows (sz:=8) (by decide) (fun _=>rfl) CFun.enc_eq (c.funs.map dFun)
 rw [List.length_map] at e
 have e2:unfl 8 c.funs.length ((c.funs.map dFun).flatMap fcsF)=(c.funs.map dFun).map CFun.enc:=e
 rw [e2]
 rfl
theorem rDual_c (c:Core) (z:SzD c) (hok:coreOk c=true) (s:Sg):HC p N13_ [.agg (Core.cs c)] s (fun r s'=>r=[.agg (Core.cs (dualC c))] ∧ ExtM s s') :=
 rDual_c0 c z.dl z.xl z.xa z.fl z.fp (fun g hg=>rNode_c _ _ _ (core_body hok g hg).2.2.2 (z.bz g hg)) s
end Go.Sim.Kd
namespace Go.Sim.Kd
open Go Go.Sim
theorem Pure_d (s:Sg) (hQ:QOK s) (c:Core) (z:SzD c) {b:Bool} {e:Int} (hb:(coreOk c && isPureC c)=b) (he:(if coreOk c=true then 0 else 60)=e):HC p N8_ [.agg (Core.cs c)] s (fun r s'=>r=[B b,I e] ∧ Ext s s'):=by
 have h:=Pure_c s hQ c z.hc (fun d hd=>Nat.le_trans (z.xl d hd) (by decide)) (Nat.le_trans z.fl (by decide)) z.fv (fun g hg=>Nat.le_trans (z.bz g hg) (by decide))
 rw [hb,he] at h
 exact h
theorem Dual_d (s:Sg) (hQ:QOK s) (hD:DQ s) (c:Core) (z:SzD c) {q:List AV} (hq:(if coreOk c=true then if isPureC c=true then [.agg (Core.cs (dualC c)),I 0] else [.agg (Core.cs ⟨[],[]⟩),I 110] else [.agg (Core.cs ⟨[],[]⟩),I 60])=q):HC p N9_ [.agg (Core.cs c)] s (fun r s'=>r=q ∧ Ext s s'):=by
 have h:=Dual_c s hQ hD c z.hc z.dl z.xl z.xa z.fl z.fp z.fv z.bz
 rw [hq] at h
 exact h
theorem e0:(⟨[],[]⟩:Core).sz ≤ 2 ^ 40:=by decide
theorem Is6_d (s:Sg) (c:Core) (z:SzD c) (hz:c.sz ≤ 2 ^ 30):HC p N10_ [.agg (Core.cs c)] s (fun r s'=>r=[B (coreOk c)] ∧ Ext s s') :=
 Is6_c s c z.hc (by unfold Core.sz at hz;omega) (Nat.le_trans z.fl (by decide))
theorem Forms_a (s:Sg) (hQ:QOK s) (hD:DQ s) (c:Core) (hz:c.sz ≤ 2 ^ 30) (z:SzD c) (k1:coreOk c=false) (k2:True):HC p N3_ [.agg (Core.cs c)] s (fun r s'=>r=[B true] ∧ Ext s s'):=by
 refine hcf J f3_ J ?_
 simp only [chainOf]
 refine er (hbox (dc dn J) J (lq2 J) (qp J (qn (kq1 J) (kq1 J) (eseq (er (hlda J J (lq2 J) (hcall J J J (Few_c _ c z.z 3000 (by decide) (by decide)) ?_)))))))
 rintro _ _ ⟨rfl,rfl⟩
 refine qb ?_
 rintro (_ | _) h1
 refine qp J (qn (kq2 J) (kq1 J) (ecT J (er (hcall J J J (awake_c _ hQ hD) ?_))))
 rintro _ _ ⟨rfl,rfl⟩
 refine qp J (qn (kq1 J) kn (eret (sqr (fqr J ?_))))
 rotate_left
 refine qp rfl (qk (kc rfl (kc rfl kn)) (kc rfl kn) (sqn (ecF rfl (eskip (sqn (eseq (ereg (hlda rfl rfl (lc rfl (lc rfl (ln rfl))) (hcall rfl rfl rfl (Pure_d _ hQ c z (b:=false) (e:=60) (by simp [k1,k2]) (by simp [k1])) ?_)))))))))
 rintro _ S1 ⟨rfl,hE1⟩
 refine pq2 J (qb ?_)
 rintro (_ | _) h2
 refine qp rfl (qp rfl (qp rfl (qk (kc rfl (kc rfl (kc rfl kn))) (kc rfl kn) (sqn (eseq (ereg (hlda rfl rfl (lc rfl (lc rfl (ln rfl))) (hcall rfl rfl rfl (Dual_d _ (hQ.e hE1) (hD.e hE1) c z (q:=[.agg (Core.cs ⟨[],[]⟩),I 60]) (by simp [k1,k2])) ?_))))))))
 rintro _ S2 ⟨rfl,hE2⟩
 refine pq3 J (hal (dq8 J) (hstl J J J J (Nlb J) (lq2 J) (qp J (qn (kq5 J) (kq2 J) (eseq (er (hlda J J (lq2 J) (hcall J J J (Is6_d _ c z hz) ?_))))))))
 rintro _ S3 ⟨rfl,hE3⟩
 rw [k1]
 refine qb ?_
 rintro (_ | _) h3
 refine qp J (qn (kq6 J) (kq2 J) (ecT J (er (pq2 J (qb ?_)))))
 rintro (_ | _) h4
 refine qp J (zq3 J (pq2 J (zq2 J (pq2 J (zq3 J (pq2 J (zq1 J (pq2 J (qn (kq1 J) kn (eret (sqr (fqr J ?_))))))))))))
 rotate_left
 refine qp J (qg J (qp J (qg J (qp J (qg J (qp J (qb ?_)))))))
 rintro (_ | _) h5
 refine pq2 J (zq2 J (pq2 J (zq3 J (pq2 J (zq1 J (pq2 J (qn (kq1 J) kn (eret (sqr (fqr J ?_))))))))))
 rotate_left
 refine pq2 J (qg J (qp J (qg J (pq3 J (qg J (hlda J J (lq2 J) (qg J (hbuild J J (lq2 J) (qg J (hcall J J J (ExactCore_c _ ⟨[],[]⟩ e0) ?_))))))))))
 rintro _ _ ⟨rfl,rfl⟩
 refine qb ?_
 rintro (_ | _) h6
 refine pq2 J (zq1 J (pq2 J (qn (kq1 J) kn (eret (sqr (fqr J ?_))))))
 rotate_left
 refine pq2 J (qg J (hcall J J J (awake_c _ (hQ.e ((hE1.trans hE2).trans hE3)) (hD.e ((hE1.trans hE2).trans hE3))) ?_))
 rintro _ _ ⟨rfl,rfl⟩
 refine pq2 J (qn (kq1 J) kn (eret (sqr (fqr J ?_))))
 rotate_left
 cases h3
 cases h2
 all_goals
  first | exact ⟨rfl,Ext.refl _⟩ | exact ⟨rfl,(hE1.trans hE2).trans hE3⟩ | exact ⟨rfl,((hE1.trans hE2).trans hE3).trans hE4.e⟩ | (exfalso;simp_all)
theorem Forms_b (s:Sg) (hQ:QOK s) (hD:DQ s) (c:Core) (hz:c.sz ≤ 2 ^ 30) (z:SzD c) (k1:coreOk c=true) (k2:isPureC c=false):HC p N3_ [.agg (Core.cs c)] s (fun r s'=>r=[B true] ∧ Ext s s'):=by
 refine hcf J f3_ J ?_
 simp only [chainOf]
 refine er (hbox (dc dn J) J (lq2 J) (qp J (qn (kq1 J) (kq1 J) (eseq (er (hlda J J (lq2 J) (hcall J J J (Few_c _ c z.z 3000 (by decide) (by decide)) ?_)))))))
 rintro _ _ ⟨rfl,rfl⟩
 refine qb ?_
 rintro (_ | _) h1
 refine qp J (qn (kq2 J) (kq1 J) (ecT J (er (hcall J J J (awake_c _ hQ hD) ?_))))
 rintro _ _ ⟨rfl,rfl⟩
 refine qp J (qn (kq1 J) kn (eret (sqr (fqr J ?_))))
 rotate_left
 refine qp rfl (qk (kc rfl (kc rfl kn)) (kc rfl kn) (sqn (ecF rfl (eskip (sqn (eseq (ereg (hlda rfl rfl (lc rfl (lc rfl (ln rfl))) (hcall rfl rfl rfl (Pure_d _ hQ c z (b:=false) (e:=0) (by simp [k1,k2]) (by simp [k1])) ?_)))))))))
 rintro _ S1 ⟨rfl,hE1⟩
 refine pq2 J (qb ?_)
 rintro (_ | _) h2
 refine qp rfl (qp rfl (qp rfl (qk (kc rfl (kc rfl (kc rfl kn))) (kc rfl kn) (sqn (eseq (ereg (hlda rfl rfl (lc rfl (lc rfl (ln rfl))) (hcall rfl rfl rfl (Dual_d _ (hQ.e hE1) (hD.e hE1) c z (q:=[.agg (Core.cs ⟨[],[]⟩),I 110]) (by simp [k1,k2])) ?_))))))))
 rintro _ S2 ⟨rfl,hE2⟩
 refine pq3 J (hal (dq8 J) (hstl J J J J (Nlb J) (lq2 J) (qp J (qn (kq5 J) (kq2 J) (eseq (er (hlda J J (lq2 J) (hcall J J J (Is6_d _ c z hz) ?_))))))))
 rintro _ S3 ⟨rfl,hE3⟩
 rw [k1]
 refine qb ?_
 rintro (_ | _) h3
 cases h3
 refine qp J (qn (kq6 J) (kq2 J) (ecF J (eskip (sqn (eseq (er (pq2 J (qb ?_))))))))
 rintro (_ | _) h4
 refine qp J (qg J (qp J (qg J (hlda J J (lq2 J) (qg J (hcall J J J (rPure_c _ c z k1) ?_))))))
 rintro _ _ ⟨rfl,rfl⟩
 rw [k2]
 refine qg J (qp J (qb ?_))
 rintro (_ | _) h5
 refine qp J (qn (kq5 J) (kq2 J) (ecF J (eskip (sqn (eseq (er (pq2 J (qn (kq4 J) (kq2 J) (ecT J (er (pq2 J (qb ?_))))))))))))
 rintro (_ | _) h6
 refine qp J (zq3 J (pq2 J (zq1 J (pq2 J (qn (kq1 J) kn (eret (sqr (fqr J ?_))))))))
 rotate_left
 refine qp J (qg J (hlda J J (lq2 J) (qg J (hbuild J J (lq2 J) (qg J (hcall J J J (ExactCore_c _ ⟨[],[]⟩ e0) ?_))))))
 rintro _ _ ⟨rfl,rfl⟩
 refine qb ?_
 rintro (_ | _) h7
 refine pq2 J (zq1 J (pq2 J (qn (kq1 J) kn (eret (sqr (fqr J ?_))))))
 rotate_left
 refine pq2 J (qg J (hcall J J J (awake_c _ (hQ.e ((hE1.trans hE2).trans hE3)) (hD.e ((hE1.trans hE2).trans hE3))) ?_))
 rintro _ _ ⟨rfl,rfl⟩
 refine pq2 J (qn (kq1 J) kn (eret (sqr (fqr J ?_))))
 rotate_left
 refine qp J (qn (kq5 J) (kq2 J) (ecT J (er (qp J (qn (kq1 J) kn (eret (sqr (fqr J ?_))))))))
 rotate_left
 refine qp J (zq4 J (qp J (qn (kq5 J) (kq2 J) (ecT J (er (qp J (qn (kq1 J) kn (eret (sqr (fqr J ?_))))))))))
 rotate_left
 cases h2
 all_goals
  first | exact ⟨rfl,Ext.refl _⟩ | exact ⟨rfl,(hE1.trans hE2).trans hE3⟩ | exact ⟨rfl,((hE1.trans hE2).trans hE3).trans hE4.e⟩ | (exfalso;simp_all)
theorem Forms_c (s:Sg) (hQ:QOK s) (hD:DQ s) (c:Core) (hz:c.sz ≤ 2 ^ 30) (z:SzD c) (k1:coreOk c=true) (k2:isPureC c=true):HC p N3_ [.agg (Core.cs c)] s (fun r s'=>r=[B true] ∧ Ext s s'):=by
 refine hcf J f3_ J ?_
 simp only [chainOf]
 refine er (hbox (dc dn J) J (lq2 J) (qp J (qn (kq1 J) (kq1 J) (eseq (er (hlda J J (lq2 J) (hcall J J J (Few_c _ c z.z 3000 (by decide) (by decide)) ?_)))))))
 rintro _ _ ⟨rfl,rfl⟩
 refine qb ?_
 rintro (_ | _) h1
 refine qp J (qn (kq2 J) (kq1 J) (ecT J (er (hcall J J J (awake_c _ hQ hD) ?_))))
 rintro _ _ ⟨rfl,rfl⟩
 refine qp J (qn (kq1 J) kn (eret (sqr (fqr J ?_))))
 rotate_left
 refine qp rfl (qk (kc rfl (kc rfl kn)) (kc rfl kn) (sqn (ecF rfl (eskip (sqn (eseq (ereg (hlda rfl rfl (lc rfl (lc rfl (ln rfl))) (hcall rfl rfl rfl (Pure_d _ hQ c z (b:=true) (e:=0) (by simp [k1,k2]) (by simp [k1])) ?_)))))))))
 rintro _ S1 ⟨rfl,hE1⟩
 refine pq2 J (qb ?_)
 rintro (_ | _) h2
 cases h2
 refine qp rfl (qp rfl (qp rfl (qk (kc rfl (kc rfl (kc rfl kn))) (kc rfl kn) (sqn (eseq (ereg (hlda rfl rfl (lc rfl (lc rfl (ln rfl))) (hcall rfl rfl rfl (Dual_d _ (hQ.e hE1) (hD.e hE1) c z (q:=[.agg (Core.cs (dualC c)),I 0]) (by simp [k1,k2])) ?_))))))))
 rintro _ S2 ⟨rfl,hE2⟩
 refine pq3 J (hal (dq8 J) (hstl J J J J (Nlb J) (lq2 J) (qp J (qn (kq5 J) (kq2 J) (eseq (er (hlda J J (lq2 J) (hcall J J J (Is6_d _ c z hz) ?_))))))))
 rintro _ S3 ⟨rfl,hE3⟩
 rw [k1]
 refine qb ?_
 rintro (_ | _) h3
 cases h3
 refine qp J (qn (kq6 J) (kq2 J) (ecF J (eskip (sqn (eseq (er (pq2 J (qb ?_))))))))
 rintro (_ | _) h4
 refine qp J (qg J (qp J (qg J (hlda J J (lq2 J) (qg J (hcall J J J (rPure_c _ c z k1) ?_))))))
 rintro _ _ ⟨rfl,rfl⟩
 rw [k2]
 refine qg J (qp J (qb ?_))
 rintro (_ | _) h5
 refine qp J (qn (kq5 J) (kq2 J) (ecF J (eskip (sqn (eseq (er (pq2 J (qn (kq4 J) (kq2 J) (ecF J (eskip (sqn (er (pq2 J (qb ?_))))))))))))))
 rintro (_ | _) h6
 refine qp J (zq4 J (pq2 J (zq1 J (pq2 J (qn (kq1 J) kn (eret (fqr J ?_)))))))
 rotate_left
 refine qp J (qg J (hlda J J (lq2 J) (qg J (hlda J J (lq2 J) (qg J (hcall J J J (rDual_c c z k1 _) ?_))))))
 rintro _ S4 ⟨rfl,hE4⟩
 refine qg rfl (hcall rfl rfl rfl (ExactCore_c _ (dualC c) (by rw [dualC_sz];exact z.z)) ?_)
 rintro _ _ ⟨rfl,rfl⟩
 refine qb ?_
 rintro (_ | _) h7
 refine pq2 J (zq1 J (pq2 J (qn (kq1 J) kn (eret (fqr J ?_)))))
 rotate_left
 refine pq2 J (qg J (hcall J J J (awake_c _ (hQ.e (((hE1.trans hE2).trans hE3).trans hE4.e)) (hD.e (((hE1.trans hE2).trans hE3).trans hE4.e))) ?_))
 rintro _ _ ⟨rfl,rfl⟩
 refine pq2 J (qn (kq1 J) kn (eret (fqr J ?_)))
 rotate_left
 refine qp J (qn (kq5 J) (kq2 J) (ecT J (er (qp J (qn (kq1 J) kn (eret (sqr (fqr J ?_))))))))
 rotate_left
 refine qp J (zq4 J (qp J (qn (kq5 J) (kq2 J) (ecT J (er (qp J (qn (kq1 J) kn (eret (sqr (fqr J ?_))))))))))
 rotate_left
 all_goals
  first | exact ⟨rfl,Ext.refl _⟩ | exact ⟨rfl,(hE1.trans hE2).trans hE3⟩ | exact ⟨rfl,((hE1.trans hE2).trans hE3).trans hE4.e⟩ | (exfalso;simp_all)
theorem DualForms_c (s:Sg) (hQ:QOK s) (hD:DQ s) (c:Core) (hz:c.sz ≤ 2 ^ 30):HC p N3_ [.agg (Core.cs c)] s (fun r s'=>r=[B true] ∧ Ext s s'):=by
 have z:=SzD.of hz
 cases h1:coreOk c with
 | false=>exact Forms_a s hQ hD c hz z h1 trivial
 | true=>cases h2:isPureC c with
   | false=>exact Forms_b s hQ hD c hz z h1 h2
   | true=>exact Forms_c s hQ hD c hz z h1 h2
end Go.Sim.Kd
