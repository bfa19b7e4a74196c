/-
  A part of a proof: see the last text of this claim.
-/
import Derived.Test.YtfejjomhjeioaaaGreatDoorPH
import Derived.Test.YtfejjomhjeioaaaGreatDoorPJ
import Derived.Test.YtfejjomhjeioaaaGreatDoorPB
set_option linter.unusedVariables false
set_option linter.unusedSimpArgs false
namespace Go.Sim.Kd
open Go Go.Sim
theorem IFNode_l (l:List Node) (g:Node → Bool) (f:Nat) (H:∀ a ∈ l,∀ s,HC p f [.agg a.cs] s (fun r s'=>r=[B (g a)] ∧ s'=s)) (i:Nat) (hi:i ≤ l.length) (hs:l.length ≤ 2 ^ 40) {n:Nat} {v:Nat → Bool} {D:List (Nat × List AV)} {S:Sg} {Q:Ex → Fr → Prop}
 (hX:∀ j,(l.drop i).any g=false → Q (.exit 0) ⟨upd (upd (upd (upd (upd ((fun _=>none)) 9 (some (.val (B false)))) 8 (some (.val (I j)))) 7 (some (.val (I (l.map Node.enc).length)))) 1 (some (.val (.fn f [] [])))) 0 (some (.val (SL 5 (l.map Node.enc)))),(fun _=>none),n,v,D,S⟩) (hR:∀ k:Int,0 ≤ k → (l.drop i).any g=true → Q .ret ⟨upd ((fun _=>none)) 4 (some (.val (I k))),(fun _=>none),n,v,D,S⟩):EX (callL p) (.loop F149_l1) ⟨upd (upd (upd (upd ((fun _=>none)) 8 (some (.val (I i)))) 7 (some (.val (I (l.map Node.enc).length)))) 1 (some (.val (.fn f [] [])))) 0 (some (.val (SL 5 (l.map Node.enc)))),(fun _=>none),n,v,D,S⟩ Q:=by
 refine eloop (er (qp rfl (qb ?_)))
 rintro (_ | _) h1
 ·refine qn (kq5 rfl rfl rfl rfl rfl) kn (eseq (ecF rfl (eexit (sqx ?_))))
  exact hX _ (by rw [List.drop_eq_nil_of_le (by simp at h1 ⊢;omega)];rfl)
 refine qn (kq5 rfl rfl rfl rfl rfl) kn (eseq (ecT rfl (eskip (sqn (eseq (eblock (er (pq2 rfl rfl (qn (kq5 rfl rfl rfl rfl rfl) kn (er (pq3 rfl rfl rfl ?_)))))))))))
 have hlt:i < l.length:=by simpa using h1
 obtain ⟨a,ha⟩:=get_of_lt hlt
 have hd:=drop_cons ha
 refine hia (y:=.agg a.cs) rfl rfl (by omega) (by simp [ha,Node.enc_eq]) rfl (hlda rfl rfl (lc rfl (lc rfl (lc rfl (lc rfl (lc rfl (ln rfl)))))) (hcall rfl rfl rfl (H a (Lmg ha) _) ?_))
 rintro _ _ ⟨rfl,rfl⟩
 refine qb ?_
 rintro (_ | _) h2
 ·refine qn (kq6 rfl rfl rfl rfl rfl rfl) kn (ecF rfl (eskip (bqn (sqn (ereg (hadd rfl rfl (i64w (by omega)) (qp rfl (qk (kq4 rfl rfl rfl rfl) kn ?_))))))))
  exact IFNode_l l g f H (i + 1) (by omega) hs (fun j h=>hX j (by rw [hd];simp_all)) (fun k hk h=>hR k hk (by rw [hd];simp_all))
 refine qn (kq6 rfl rfl rfl rfl rfl rfl) kn (ecT rfl (er (pq2 rfl rfl (qn (kq1 rfl) kn (eret (bqr (sqr ?_)))))))
 exact hR i (by omega) (by rw [hd];simp_all)
termination_by l.length - i
decreasing_by all_goals omega
theorem IFNode_c (l:List Node) (g:Node → Bool) (f:Nat) (H:∀ a ∈ l,∀ s,HC p f [.agg a.cs] s (fun r s'=>r=[B (g a)] ∧ s'=s)) (hs:l.length ≤ 2 ^ 40) (s:Sg):HC p N149_ [SL 5 (l.map Node.enc),.fn f [] []] s (fun r s'=>∃ k:Int,r=[I k] ∧ decide (0 ≤ k)=l.any g ∧ s'=s):=by
 refine hcf rfl f149_ rfl ?_
 simp only [chainOf]
 refine er (qp rfl (qn (kq2 rfl rfl) kn (eseq (er (pq3 rfl rfl rfl (qn (kq4 rfl rfl rfl rfl) kn (eblock ?_)))))))
 refine IFNode_l l g f H 0 (by omega) hs ?_ ?_
 ·intro j ha
  refine bqx (sqn (er (qp rfl (qn (kq1 rfl) kn (eret (fqr rfl ?_))))))
  refine ⟨-1,rfl,?_,rfl⟩
  rw [List.drop_zero] at ha
  rw [ha]
  rfl
 intro k hk ha
 refine bqr (sqr (fqr rfl ?_))
 refine ⟨k,rfl,?_,rfl⟩
 rw [List.drop_zero] at ha
 rw [ha,decide_eq_true hk]
theorem CFNode_c (l:List Node) (g:Node → Bool) (f:Nat) (H:∀ a ∈ l,∀ s,HC p f [.agg a.cs] s (fun r s'=>r=[B (g a)] ∧ s'=s)) (hs:l.length ≤ 2 ^ 40) (s:Sg):HC p N115_ [SL 5 (l.map Node.enc),.fn f [] []] s (fun r s'=>r=[B (l.any g)] ∧ s'=s):=by
 refine hcf rfl f115_ rfl ?_
 simp only [chainOf]
 refine er (qp rfl (qn (kq2 rfl rfl) kn (er (pq2 rfl rfl (hcall rfl rfl rfl (IFNode_c l g f H hs _) ?_)))))
 rintro _ _ ⟨k,rfl,hk,rfl⟩
 refine pq2 rfl rfl (qn (kq1 rfl) kn (eret (fqr rfl ?_)))
 refine ⟨congrArg (fun x=>[B x]) ?_,rfl⟩
 exact hk
theorem IFBranch_l (l:List Br) (g:Br → Bool) (f:Nat) (H:∀ a ∈ l,∀ s,HC p f [.agg (ints a.vars :: bools a.co :: a.body.cs)] s (fun r s'=>r=[B (g a)] ∧ s'=s)) (i:Nat) (hi:i ≤ l.length) (hs:l.length ≤ 2 ^ 40) {n:Nat} {v:Nat → Bool} {D:List (Nat × List AV)} {S:Sg} {Q:Ex → Fr → Prop}
 (hX:∀ j,(l.drop i).any g=false → Q (.exit 0) ⟨upd (upd (upd (upd (upd ((fun _=>none)) 9 (some (.val (B false)))) 8 (some (.val (I j)))) 7 (some (.val (I (l.map Br.enc).length)))) 1 (some (.val (.fn f [] [])))) 0 (some (.val (SL 7 (l.map Br.enc)))),(fun _=>none),n,v,D,S⟩) (hR:∀ k:Int,0 ≤ k → (l.drop i).any g=true → Q .ret ⟨upd ((fun _=>none)) 4 (some (.val (I k))),(fun _=>none),n,v,D,S⟩):EX (callL p) (.loop F150_l1) ⟨upd (upd (upd (upd ((fun _=>none)) 8 (some (.val (I i)))) 7 (some (.val (I (l.map Br.enc).length)))) 1 (some (.val (.fn f [] [])))) 0 (some (.val (SL 7 (l.map Br.enc)))),(fun _=>none),n,v,D,S⟩ Q:=by
 refine eloop (er (qp rfl (qb ?_)))
 rintro (_ | _) h1
 ·refine qn (kq5 rfl rfl rfl rfl rfl) kn (eseq (ecF rfl (eexit (sqx ?_))))
  exact hX _ (by rw [List.drop_eq_nil_of_le (by simp at h1 ⊢;omega)];rfl)
 refine qn (kq5 rfl rfl rfl rfl rfl) kn (eseq (ecT rfl (eskip (sqn (eseq (eblock (er (pq2 rfl rfl (qn (kq5 rfl rfl rfl rfl rfl) kn (er (pq3 rfl rfl rfl ?_)))))))))))
 have hlt:i < l.length:=by simpa using h1
 obtain ⟨a,ha⟩:=get_of_lt hlt
 have hd:=drop_cons ha
 refine hia (y:=.agg (ints a.vars :: bools a.co :: a.body.cs)) rfl rfl (by omega) (by simp [ha,Br.enc_eq]) rfl (hlda rfl rfl (lc rfl (lc rfl (lc rfl (lc rfl (lc rfl (lc rfl (lc rfl (ln rfl)))))))) (hcall rfl rfl rfl (H a (Lmg ha) _) ?_))
 rintro _ _ ⟨rfl,rfl⟩
 refine qb ?_
 rintro (_ | _) h2
 ·refine qn (kq6 rfl rfl rfl rfl rfl rfl) kn (ecF rfl (eskip (bqn (sqn (ereg (hadd rfl rfl (i64w (by omega)) (qp rfl (qk (kq4 rfl rfl rfl rfl) kn ?_))))))))
  exact IFBranch_l l g f H (i + 1) (by omega) hs (fun j h=>hX j (by rw [hd];simp_all)) (fun k hk h=>hR k hk (by rw [hd];simp_all))
 refine qn (kq6 rfl rfl rfl rfl rfl rfl) kn (ecT rfl (er (pq2 rfl rfl (qn (kq1 rfl) kn (eret (bqr (sqr ?_)))))))
 exact hR i (by omega) (by rw [hd];simp_all)
termination_by l.length - i
decreasing_by all_goals omega
theorem IFBranch_c (l:List Br) (g:Br → Bool) (f:Nat) (H:∀ a ∈ l,∀ s,HC p f [.agg (ints a.vars :: bools a.co :: a.body.cs)] s (fun r s'=>r=[B (g a)] ∧ s'=s)) (hs:l.length ≤ 2 ^ 40) (s:Sg):HC p N150_ [SL 7 (l.map Br.enc),.fn f [] []] s (fun r s'=>∃ k:Int,r=[I k] ∧ decide (0 ≤ k)=l.any g ∧ s'=s):=by
 refine hcf rfl f150_ rfl ?_
 simp only [chainOf]
 refine er (qp rfl (qn (kq2 rfl rfl) kn (eseq (er (pq3 rfl rfl rfl (qn (kq4 rfl rfl rfl rfl) kn (eblock ?_)))))))
 refine IFBranch_l l g f H 0 (by omega) hs ?_ ?_
 ·intro j ha
  refine bqx (sqn (er (qp rfl (qn (kq1 rfl) kn (eret (fqr rfl ?_))))))
  refine ⟨-1,rfl,?_,rfl⟩
  rw [List.drop_zero] at ha
  rw [ha]
  rfl
 intro k hk ha
 refine bqr (sqr (fqr rfl ?_))
 refine ⟨k,rfl,?_,rfl⟩
 rw [List.drop_zero] at ha
 rw [ha,decide_eq_true hk]
theorem CFBranch_c (l:List Br) (g:Br → Bool) (f:Nat) (H:∀ a ∈ l,∀ s,HC p f [.agg (ints a.vars :: bools a.co :: a.body.cs)] s (fun r s'=>r=[B (g a)] ∧ s'=s)) (hs:l.length ≤ 2 ^ 40) (s:Sg):HC p N117_ [SL 7 (l.map Br.enc),.fn f [] []] s (fun r s'=>r=[B (l.any g)] ∧ s'=s):=by
 refine hcf rfl f117_ rfl ?_
 simp only [chainOf]
 refine er (qp rfl (qn (kq2 rfl rfl) kn (er (pq2 rfl rfl (hcall rfl rfl rfl (IFBranch_c l g f H hs _) ?_)))))
 rintro _ _ ⟨k,rfl,hk,rfl⟩
 refine pq2 rfl rfl (qn (kq1 rfl) kn (eret (fqr rfl ?_)))
 refine ⟨congrArg (fun x=>[B x]) ?_,rfl⟩
 exact hk
theorem IFArg_l (l:List Arg) (g:Arg → Bool) (f:Nat) (H:∀ a ∈ l,∀ s,HC p f [.agg [I a.ty,B a.co]] s (fun r s'=>r=[B (g a)] ∧ s'=s)) (i:Nat) (hi:i ≤ l.length) (hs:l.length ≤ 2 ^ 40) {n:Nat} {v:Nat → Bool} {D:List (Nat × List AV)} {S:Sg} {Q:Ex → Fr → Prop}
 (hX:∀ j,(l.drop i).any g=false → Q (.exit 0) ⟨upd (upd (upd (upd (upd ((fun _=>none)) 9 (some (.val (B false)))) 8 (some (.val (I j)))) 7 (some (.val (I (l.map Arg.enc).length)))) 1 (some (.val (.fn f [] [])))) 0 (some (.val (SL 2 (l.map Arg.enc)))),(fun _=>none),n,v,D,S⟩) (hR:∀ k:Int,0 ≤ k → (l.drop i).any g=true → Q .ret ⟨upd ((fun _=>none)) 4 (some (.val (I k))),(fun _=>none),n,v,D,S⟩):EX (callL p) (.loop F148_l1) ⟨upd (upd (upd (upd ((fun _=>none)) 8 (some (.val (I i)))) 7 (some (.val (I (l.map Arg.enc).length)))) 1 (some (.val (.fn f [] [])))) 0 (some (.val (SL 2 (l.map Arg.enc)))),(fun _=>none),n,v,D,S⟩ Q:=by
 refine eloop (er (qp rfl (qb ?_)))
 rintro (_ | _) h1
 ·refine qn (kq5 rfl rfl rfl rfl rfl) kn (eseq (ecF rfl (eexit (sqx ?_))))
  exact hX _ (by rw [List.drop_eq_nil_of_le (by simp at h1 ⊢;omega)];rfl)
 refine qn (kq5 rfl rfl rfl rfl rfl) kn (eseq (ecT rfl (eskip (sqn (eseq (eblock (er (pq2 rfl rfl (qn (kq5 rfl rfl rfl rfl rfl) kn (er (pq3 rfl rfl rfl ?_)))))))))))
 have hlt:i < l.length:=by simpa using h1
 obtain ⟨a,ha⟩:=get_of_lt hlt
 have hd:=drop_cons ha
 refine hia (y:=.agg [I a.ty,B a.co]) rfl rfl (by omega) (by simp [ha,Arg.enc]) rfl (hlda rfl rfl (lc rfl (lc rfl (ln rfl))) (hcall rfl rfl rfl (H a (Lmg ha) _) ?_))
 rintro _ _ ⟨rfl,rfl⟩
 refine qb ?_
 rintro (_ | _) h2
 ·refine qn (kq6 rfl rfl rfl rfl rfl rfl) kn (ecF rfl (eskip (bqn (sqn (ereg (hadd rfl rfl (i64w (by omega)) (qp rfl (qk (kq4 rfl rfl rfl rfl) kn ?_))))))))
  exact IFArg_l l g f H (i + 1) (by omega) hs (fun j h=>hX j (by rw [hd];simp_all)) (fun k hk h=>hR k hk (by rw [hd];simp_all))
 refine qn (kq6 rfl rfl rfl rfl rfl rfl) kn (ecT rfl (er (pq2 rfl rfl (qn (kq1 rfl) kn (eret (bqr (sqr ?_)))))))
 exact hR i (by omega) (by rw [hd];simp_all)
termination_by l.length - i
decreasing_by all_goals omega
theorem IFArg_c (l:List Arg) (g:Arg → Bool) (f:Nat) (H:∀ a ∈ l,∀ s,HC p f [.agg [I a.ty,B a.co]] s (fun r s'=>r=[B (g a)] ∧ s'=s)) (hs:l.length ≤ 2 ^ 40) (s:Sg):HC p N148_ [SL 2 (l.map Arg.enc),.fn f [] []] s (fun r s'=>∃ k:Int,r=[I k] ∧ decide (0 ≤ k)=l.any g ∧ s'=s):=by
 refine hcf rfl f148_ rfl ?_
 simp only [chainOf]
 refine er (qp rfl (qn (kq2 rfl rfl) kn (eseq (er (pq3 rfl rfl rfl (qn (kq4 rfl rfl rfl rfl) kn (eblock ?_)))))))
 refine IFArg_l l g f H 0 (by omega) hs ?_ ?_
 ·intro j ha
  refine bqx (sqn (er (qp rfl (qn (kq1 rfl) kn (eret (fqr rfl ?_))))))
  refine ⟨-1,rfl,?_,rfl⟩
  rw [List.drop_zero] at ha
  rw [ha]
  rfl
 intro k hk ha
 refine bqr (sqr (fqr rfl ?_))
 refine ⟨k,rfl,?_,rfl⟩
 rw [List.drop_zero] at ha
 rw [ha,decide_eq_true hk]
theorem CFArg_c (l:List Arg) (g:Arg → Bool) (f:Nat) (H:∀ a ∈ l,∀ s,HC p f [.agg [I a.ty,B a.co]] s (fun r s'=>r=[B (g a)] ∧ s'=s)) (hs:l.length ≤ 2 ^ 40) (s:Sg):HC p N113_ [SL 2 (l.map Arg.enc),.fn f [] []] s (fun r s'=>r=[B (l.any g)] ∧ s'=s):=by
 refine hcf rfl f113_ rfl ?_
 simp only [chainOf]
 refine er (qp rfl (qn (kq2 rfl rfl) kn (er (pq2 rfl rfl (hcall rfl rfl rfl (IFArg_c l g f H hs _) ?_)))))
 rintro _ _ ⟨k,rfl,hk,rfl⟩
 refine pq2 rfl rfl (qn (kq1 rfl) kn (eret (fqr rfl ?_)))
 refine ⟨congrArg (fun x=>[B x]) ?_,rfl⟩
 exact hk
theorem typed1_c (s:Sg) (a:Arg):HC p N114_ [.agg [I a.ty,B a.co]] s (fun r s'=>r=[B (decide (a.ty=0))] ∧ s'=s):=by
 refine hcf rfl f114_ rfl ?_
 simp only [chainOf]
 refine er (hbox (dc dn rfl) rfl (lq2 rfl rfl rfl) (qp rfl (qn (kq1 rfl) (kq1 rfl) (er (pq4 rfl rfl rfl rfl (qn (kq1 rfl) kn (eret (fqr rfl ?_))))))))
 exact ⟨rfl,rfl⟩
def typedA (l:List Arg):Bool:=!(l.any fun a=>decide (a.ty=0))
theorem typed_c (s:Sg) (l:List Arg) (hs:l.length ≤ 2 ^ 40):HC p N64_ [encArgs l] s (fun r s'=>r=[B (typedA l)] ∧ s'=s):=by
 refine hcf rfl f64_ rfl ?_
 simp only [chainOf]
 refine er (qp rfl (qn (kq1 rfl) kn (er (qp rfl (hcall rfl rfl rfl (CFArg_c l _ _ (fun a _ s=>typed1_c s a) hs _) ?_)))))
 rintro _ _ ⟨rfl,rfl⟩
 refine pq2 rfl rfl (qn (kq1 rfl) kn (eret (fqr rfl ?_)))
 exact ⟨rfl,rfl⟩
end Go.Sim.Kd
namespace Go.Sim.Kd
open Go Go.Sim
mutual
def pureN:Node → Bool
 | .mk op n ty args brs=>if (op=3 ∨ op=7 ∨ op=9) ∧ ty=0 then false
   else if op=10 ∨ op=11 ∨ op=1 then false
   else if op=12 then decide (((args.map Node.op)[0]?).getD 0=1) && ((pureNs args)[1]?).getD false
   else if op=14 then decide (((args.map Node.op)[0]?).getD 0=1)
   else (pureNs args).all id && (pureBs brs).all id
def pureNs:List Node → List Bool
 | []=>[]
 | a :: as=>pureN a :: pureNs as
def pureB:Br → Bool
 | .mk _ _ body=>pureN body
def pureBs:List Br → List Bool
 | []=>[]
 | a :: as=>pureB a :: pureBs as
end
theorem pureNs_eq (l:List Node):pureNs l=l.map pureN:=by induction l with
 | nil=>rfl
 | cons a l ih=>simp [pureNs,ih]
theorem pureB_eq (b:Br):pureB b=pureN b.body:=by cases b;rfl
theorem pureBs_eq (l:List Br):pureBs l=l.map fun b=>pureN b.body:=by induction l with
 | nil=>rfl
 | cons a l ih=>simp [pureBs,ih,pureB_eq]
theorem pureN_eq (a:Node):pureN a=if (a.op=3 ∨ a.op=7 ∨ a.op=9) ∧ a.ty=0 then false
 else if a.op=10 ∨ a.op=11 ∨ a.op=1 then false
 else if a.op=12 then decide (((a.args.map Node.op)[0]?).getD 0=1) && ((a.args.map pureN)[1]?).getD false
 else if a.op=14 then decide (((a.args.map Node.op)[0]?).getD 0=1)
 else !(a.args.any fun b=>!pureN b) && !(a.brs.any fun b=>!pureN b.body):=by
 cases a with
 | mk op n ty args brs =>
   simp only [pureN,pureNs_eq,pureBs_eq,Node.op,Node.ty,Node.args,Node.brs]
   have e1:(args.map pureN).all id=!(args.any fun b=>!pureN b):=by
    induction args with
    | nil=>rfl
    | cons b l ih=>simp only [List.map_cons,List.all_cons,List.any_cons,ih];cases pureN b <;> simp
   have e2:(brs.map fun b=>pureN b.body).all id=!(brs.any fun b=>!pureN b.body):=by
    induction brs with
    | nil=>rfl
    | cons b l ih=>simp only [List.map_cons,List.all_cons,List.any_cons,ih];cases pureN b.body <;> simp
   rw [e1,e2]
   first | rfl | (repeat' split) <;> simp_all
theorem vNs_len2 {ds:List Decl} {fs:List CFun}:∀ {l:List Node} {ws:List Int} {X A:Int → Bool},vNs ds fs l ws X A=true → l.length=ws.length
 | [],[],_,_,_=>rfl
 | [],_ :: _,_,_,h=>by simp [vNs] at h
 | _ :: _,[],_,_,h=>by simp [vNs] at h
 | a :: l,w :: ws,X,A,h=>by
   simp only [vNs,Bae] at h
   simp [vNs_len2 h.2]
theorem vBs_mem {ds:List Decl} {fs:List CFun}:∀ {l:List Br} {xs:List Xtor} {X A:Int → Bool},vBs ds fs l xs X A=true → ∀ b ∈ l,∃ X' A',vN ds fs b.body X' A'=true
 | [],_,_,_,_,b,hb=>by cases hb
 | a :: l,[],_,_,h,_,_=>by simp [vBs] at h
 | a :: l,x :: xs,X,A,h,b,hb=>by
   simp only [vBs,Bae] at h
   cases hb with
   | head =>
     have h1:=h.1
     rw [vB_eq] at h1
     simp only [Bae] at h1
     exact ⟨_,_,h1.2⟩
   | tail _ hb=>exact vBs_mem h.2 b hb
theorem vN_parts {ds:List Decl} {fs:List CFun} {a:Node} {X A:Int → Bool} (h:vN ds fs a X A=true):(∀ b ∈ a.args,∃ X' A',vN ds fs b X' A'=true) ∧ (∀ b ∈ a.brs,∃ X' A',vN ds fs b.body X' A'=true) ∧
 ∃ want xs,headOf ds fs a.op a.n a.ty=some (want,xs) ∧ a.args.length=want.length:=by
 rw [vN_eq] at h
 split at h
 ·cases h
 rename_i want xs hh
 simp only [Bae] at h
 exact ⟨fun b hb=>⟨_,_,vNs_mem h.1.2 b hb⟩,vBs_mem h.2,want,xs,hh,vNs_len2 h.1.2⟩
theorem len12 {ds:List Decl} {fs:List CFun} {a:Node} {X A:Int → Bool} (h:vN ds fs a X A=true) (e:a.op=12):a.args.length=2:=by
 obtain ⟨_,_,want,xs,hh,hl⟩:=vN_parts h
 rw [e] at hh
 simp [headOf] at hh
 rw [hl,← hh.2.1];rfl
theorem len14 {ds:List Decl} {fs:List CFun} {a:Node} {X A:Int → Bool} (h:vN ds fs a X A=true) (e:a.op=14):a.args.length=1:=by
 obtain ⟨_,_,want,xs,hh,hl⟩:=vN_parts h
 rw [e] at hh
 simp [headOf] at hh
 rw [hl,← hh.2.1];rfl
def PureC (b:Node):Prop:=∀ s,HC p N65_ [.agg b.cs] s (fun r s'=>r=[B (pureN b)] ∧ s'=s)
theorem pure1_c (b:Node) (H:PureC b) (s:Sg):HC p N116_ [.agg b.cs] s (fun r s'=>r=[B (!pureN b)] ∧ s'=s):=by
 refine hcf rfl f116_ rfl ?_
 simp only [chainOf]
 refine er (hbox (dc dn rfl) rfl (lq5 rfl rfl rfl rfl rfl rfl) (qp rfl (qn (kq1 rfl) (kq1 rfl) (er (hlda rfl rfl (lq5 rfl rfl rfl rfl rfl rfl) (hcall rfl rfl rfl (H _) ?_))))))
 rintro _ _ ⟨rfl,rfl⟩
 refine pq2 rfl rfl (qn (kq1 rfl) kn (eret (fqr rfl ?_)))
 exact ⟨rfl,rfl⟩
theorem pure2_c (b:Br) (H:PureC b.body) (s:Sg):HC p N118_ [.agg (ints b.vars :: bools b.co :: b.body.cs)] s (fun r s'=>r=[B (!pureN b.body)] ∧ s'=s):=by
 refine hcf rfl f118_ rfl ?_
 simp only [chainOf]
 refine er (hbox (dc dn rfl) rfl (lq7 rfl rfl rfl rfl rfl rfl rfl rfl) (qp rfl (qn (kq1 rfl) (kq1 rfl) (er (qp rfl (hlda rfl rfl (lq5 rfl rfl rfl rfl rfl rfl) (hcall rfl rfl rfl (H _) ?_)))))))
 rintro _ _ ⟨rfl,rfl⟩
 refine pq2 rfl rfl (qn (kq1 rfl) kn (eret (fqr rfl ?_)))
 exact ⟨rfl,rfl⟩
theorem pure_c0 (ds:List Decl) (fs:List CFun) (a:Node) {X A:Int → Bool} (hv:vN ds fs a X A=true) (hz:a.sz ≤ 2 ^ 40) (H1:∀ b ∈ a.args,PureC b) (H2:∀ b ∈ a.brs,PureC b.body) (s:Sg):HC p N65_ [.agg a.cs] s (fun r s'=>r=[B (pureN a)] ∧ s'=s):=by
 refine hcf rfl f65_ rfl ?_
 simp only [chainOf]
 refine er (hbox (dc dn rfl) rfl (lq5 rfl rfl rfl rfl rfl rfl) (qp rfl (qn (kq1 rfl) (kq1 rfl) (eseq (er (pq2 rfl rfl (qn (kq2 rfl rfl) (kq1 rfl) (eblock (eseq (er (qp rfl (qb ?_))))))))))))
 rintro (_ | _) h1
 ·refine qp rfl (qn (kq3 rfl rfl rfl) (kq1 rfl) (ecF rfl (er (qp rfl (qb ?_)))))
  rintro (_ | _) h2
  ·refine qp rfl (qn (kq3 rfl rfl rfl) (kq1 rfl) (ecF rfl (ereg (qp rfl (qb ?_)))))
   rintro (_ | _) h3
   ·refine qp rfl (qn (kq3 rfl rfl rfl) (kq1 rfl) (ecF rfl (eseq (er (qp rfl (qb ?_))))))
    rintro (_ | _) h4
    ·refine qp rfl (qn (kq3 rfl rfl rfl) (kq1 rfl) (ecF rfl (er (qp rfl (qb ?_)))))
     rintro (_ | _) h5
     ·refine qp rfl (qn (kq3 rfl rfl rfl) (kq1 rfl) (ecF rfl (ereg (qp rfl (qb ?_)))))
      rintro (_ | _) h6
      ·refine qp rfl (qn (kq3 rfl rfl rfl) (kq1 rfl) (ecF rfl (er (qp rfl (qb ?_)))))
       rintro (_ | _) h7
       ·refine qp rfl (qn (kq3 rfl rfl rfl) (kq1 rfl) (ecF rfl (er (qp rfl (qb ?_)))))
        rintro (_ | _) h8
        ·refine qp rfl (qk (kc rfl (kc rfl kn)) (kc rfl kn) (sqn (ecF rfl (eskip (bqn (sqn (eseq (ereg (qp rfl (qp rfl (hcall rfl rfl rfl (CFNode_c a.args (fun b=>!pureN b) _ (fun b hb s=>pure1_c b (H1 b hb) s) (by have:=a.sz_args;omega) _) ?_)))))))))))
         rintro _ _ ⟨rfl,rfl⟩
         refine qb ?_
         rintro (_ | _) h9
         ·refine qp rfl (qp rfl (qg rfl (qp rfl (qg rfl (qp rfl (qg rfl (hcall rfl rfl rfl (CFBranch_c a.brs (fun b=>!pureN b.body) _ (fun b hb s=>pure2_c b (H2 b hb) s) (by have:=a.sz_brs;omega) _) ?_)))))))
          rintro _ _ ⟨rfl,rfl⟩
          refine qg rfl (pq3 rfl rfl rfl (qn (kq1 rfl) kn (eret (fqr rfl ?_))))
          refine ⟨congrArg (fun x=>[B x]) ?_,rfl⟩
          rw [pureN_eq a]
          simp_all [-List.any_eq_true,-List.any_eq_false]
         refine pq2 rfl rfl (zq4 rfl rfl rfl rfl (pq2 rfl rfl (qn (kq1 rfl) kn (eret (fqr rfl ?_)))))
         refine ⟨congrArg (fun x=>[B x]) ?_,rfl⟩
         rw [pureN_eq a]
         simp_all [-List.any_eq_true,-List.any_eq_false]
        refine qp rfl (qn (kq2 rfl rfl) (kq1 rfl) (ecT rfl (er (pq2 rfl rfl ?_))))
        have hl1:a.args.length=1:=len14 hv (by simp_all)
        obtain ⟨x,hx⟩:=get_of_lt (l:=a.args) (i:=0) (by omega)
        refine hia (y:=.agg x.cs) rfl rfl (by decide) (by simp [hx,Node.enc_eq]) rfl (qp rfl (qp rfl (qp rfl (qp rfl (qk (kc rfl kn) kn (sqn (eret (bqr (sqr (fqr rfl ?_))))))))))
        refine ⟨congrArg (fun x=>[B x]) ?_,rfl⟩
        rw [pureN_eq a]
        simp_all [-List.any_eq_true,-List.any_eq_false]
       refine qp rfl (qn (kq3 rfl rfl rfl) (kq1 rfl) (ecT rfl (er (pq2 rfl rfl ?_))))
       have hl2:a.args.length=2:=by first | exact len12 hv (by simp_all) | omega
       obtain ⟨x,hx⟩:=get_of_lt (l:=a.args) (i:=0) (by omega)
       obtain ⟨y,hy⟩:=get_of_lt (l:=a.args) (i:=1) (by omega)
       refine hia (y:=.agg x.cs) rfl rfl (by decide) (by simp [hx,Node.enc_eq]) rfl (qp rfl (qp rfl (qp rfl (qb ?_))))
       rintro (_ | _) h10
       ·refine qp rfl (zq5 rfl rfl rfl rfl rfl (pq2 rfl rfl (qn (kq1 rfl) kn (eret (bqr (sqr (fqr rfl ?_)))))))
        refine ⟨congrArg (fun x=>[B x]) ?_,rfl⟩
        rw [pureN_eq a]
        simp_all [-List.any_eq_true,-List.any_eq_false]
       refine qp rfl (qg rfl (qp rfl (qg rfl (qp rfl (qg rfl (hia (y:=.agg y.cs) rfl rfl (by decide) (by simp [hy,Node.enc_eq]) rfl (qg rfl (hlda rfl rfl (lc rfl (lc rfl (lc rfl (lc rfl (lc rfl (ln rfl)))))) (qg rfl (hcall rfl rfl rfl (H1 y (Lmg hy) _) ?_))))))))))
       rintro _ _ ⟨rfl,rfl⟩
       refine pq2 rfl rfl (qn (kq1 rfl) kn (eret (bqr (sqr (fqr rfl ?_)))))
       refine ⟨congrArg (fun x=>[B x]) ?_,rfl⟩
       rw [pureN_eq a]
       simp_all [-List.any_eq_true,-List.any_eq_false]
      refine qp rfl (qn (kq3 rfl rfl rfl) (kq1 rfl) (ecT rfl (er (qp rfl (qn (kq1 rfl) kn (eret (bqr (sqr (fqr rfl ?_)))))))))
      refine ⟨congrArg (fun x=>[B x]) ?_,rfl⟩
      rw [pureN_eq a]
      simp_all [-List.any_eq_true,-List.any_eq_false]
     refine qp rfl (qn (kq3 rfl rfl rfl) (kq1 rfl) (ecT rfl (eskip (sqn (ecT rfl (er (qp rfl (qn (kq1 rfl) kn (eret (bqr (sqr (fqr rfl ?_))))))))))))
     refine ⟨congrArg (fun x=>[B x]) ?_,rfl⟩
     rw [pureN_eq a]
     simp_all [-List.any_eq_true,-List.any_eq_false]
    refine qp rfl (qn (kq3 rfl rfl rfl) (kq1 rfl) (ecT rfl (eskip (sqn (ecT rfl (er (qp rfl (qn (kq1 rfl) kn (eret (bqr (sqr (fqr rfl ?_))))))))))))
    refine ⟨congrArg (fun x=>[B x]) ?_,rfl⟩
    rw [pureN_eq a]
    simp_all [-List.any_eq_true,-List.any_eq_false]
   refine qp rfl (qn (kq3 rfl rfl rfl) (kq1 rfl) (ecT rfl (er (pq3 rfl rfl rfl (qb ?_)))))
   rintro (_ | _) h11
   ·refine qk (kc rfl (kc rfl kn)) (kc rfl kn) (sqn (ecF rfl (eskip (bqn (sqn (eseq (ereg (qp rfl (qp rfl (hcall rfl rfl rfl (CFNode_c a.args (fun b=>!pureN b) _ (fun b hb s=>pure1_c b (H1 b hb) s) (by have:=a.sz_args;omega) _) ?_))))))))))
    rintro _ _ ⟨rfl,rfl⟩
    refine qb ?_
    rintro (_ | _) h12
    ·refine qp rfl (qp rfl (qg rfl (qp rfl (qg rfl (qp rfl (qg rfl (hcall rfl rfl rfl (CFBranch_c a.brs (fun b=>!pureN b.body) _ (fun b hb s=>pure2_c b (H2 b hb) s) (by have:=a.sz_brs;omega) _) ?_)))))))
     rintro _ _ ⟨rfl,rfl⟩
     refine qg rfl (pq3 rfl rfl rfl (qn (kq1 rfl) kn (eret (fqr rfl ?_))))
     refine ⟨congrArg (fun x=>[B x]) ?_,rfl⟩
     rw [pureN_eq a]
     simp_all [-List.any_eq_true,-List.any_eq_false]
    refine pq2 rfl rfl (zq4 rfl rfl rfl rfl (pq2 rfl rfl (qn (kq1 rfl) kn (eret (fqr rfl ?_)))))
    refine ⟨congrArg (fun x=>[B x]) ?_,rfl⟩
    rw [pureN_eq a]
    simp_all [-List.any_eq_true,-List.any_eq_false]
   refine qn (kq2 rfl rfl) (kq1 rfl) (ecT rfl (er (qp rfl (qn (kq1 rfl) kn (eret (bqr (sqr (fqr rfl ?_))))))))
   refine ⟨congrArg (fun x=>[B x]) ?_,rfl⟩
   rw [pureN_eq a]
   simp_all [-List.any_eq_true,-List.any_eq_false]
  refine qp rfl (qn (kq3 rfl rfl rfl) (kq1 rfl) (ecT rfl (eskip (sqn (ecT rfl (er (pq3 rfl rfl rfl (qb ?_))))))))
  rintro (_ | _) h13
  ·refine qk (kc rfl (kc rfl kn)) (kc rfl kn) (sqn (ecF rfl (eskip (bqn (sqn (eseq (ereg (qp rfl (qp rfl (hcall rfl rfl rfl (CFNode_c a.args (fun b=>!pureN b) _ (fun b hb s=>pure1_c b (H1 b hb) s) (by have:=a.sz_args;omega) _) ?_))))))))))
   rintro _ _ ⟨rfl,rfl⟩
   refine qb ?_
   rintro (_ | _) h14
   ·refine qp rfl (qp rfl (qg rfl (qp rfl (qg rfl (qp rfl (qg rfl (hcall rfl rfl rfl (CFBranch_c a.brs (fun b=>!pureN b.body) _ (fun b hb s=>pure2_c b (H2 b hb) s) (by have:=a.sz_brs;omega) _) ?_)))))))
    rintro _ _ ⟨rfl,rfl⟩
    refine qg rfl (pq3 rfl rfl rfl (qn (kq1 rfl) kn (eret (fqr rfl ?_))))
    refine ⟨congrArg (fun x=>[B x]) ?_,rfl⟩
    rw [pureN_eq a]
    simp_all [-List.any_eq_true,-List.any_eq_false]
   refine pq2 rfl rfl (zq4 rfl rfl rfl rfl (pq2 rfl rfl (qn (kq1 rfl) kn (eret (fqr rfl ?_)))))
   refine ⟨congrArg (fun x=>[B x]) ?_,rfl⟩
   rw [pureN_eq a]
   simp_all [-List.any_eq_true,-List.any_eq_false]
  refine qn (kq2 rfl rfl) (kq1 rfl) (ecT rfl (er (qp rfl (qn (kq1 rfl) kn (eret (bqr (sqr (fqr rfl ?_))))))))
  refine ⟨congrArg (fun x=>[B x]) ?_,rfl⟩
  rw [pureN_eq a]
  simp_all [-List.any_eq_true,-List.any_eq_false]
 refine qp rfl (qn (kq3 rfl rfl rfl) (kq1 rfl) (ecT rfl (eskip (sqn (ecT rfl (er (pq3 rfl rfl rfl (qb ?_))))))))
 rintro (_ | _) h15
 ·refine qk (kc rfl (kc rfl kn)) (kc rfl kn) (sqn (ecF rfl (eskip (bqn (sqn (eseq (ereg (qp rfl (qp rfl (hcall rfl rfl rfl (CFNode_c a.args (fun b=>!pureN b) _ (fun b hb s=>pure1_c b (H1 b hb) s) (by have:=a.sz_args;omega) _) ?_))))))))))
  rintro _ _ ⟨rfl,rfl⟩
  refine qb ?_
  rintro (_ | _) h16
  ·refine qp rfl (qp rfl (qg rfl (qp rfl (qg rfl (qp rfl (qg rfl (hcall rfl rfl rfl (CFBranch_c a.brs (fun b=>!pureN b.body) _ (fun b hb s=>pure2_c b (H2 b hb) s) (by have:=a.sz_brs;omega) _) ?_)))))))
   rintro _ _ ⟨rfl,rfl⟩
   refine qg rfl (pq3 rfl rfl rfl (qn (kq1 rfl) kn (eret (fqr rfl ?_))))
   refine ⟨congrArg (fun x=>[B x]) ?_,rfl⟩
   rw [pureN_eq a]
   simp_all [-List.any_eq_true,-List.any_eq_false]
  refine pq2 rfl rfl (zq4 rfl rfl rfl rfl (pq2 rfl rfl (qn (kq1 rfl) kn (eret (fqr rfl ?_)))))
  refine ⟨congrArg (fun x=>[B x]) ?_,rfl⟩
  rw [pureN_eq a]
  simp_all [-List.any_eq_true,-List.any_eq_false]
 refine qn (kq2 rfl rfl) (kq1 rfl) (ecT rfl (er (qp rfl (qn (kq1 rfl) kn (eret (bqr (sqr (fqr rfl ?_))))))))
 refine ⟨congrArg (fun x=>[B x]) ?_,rfl⟩
 rw [pureN_eq a]
 simp_all [-List.any_eq_true,-List.any_eq_false]
theorem pure_c (ds:List Decl) (fs:List CFun) (a:Node):∀ {X A:Int → Bool},vN ds fs a X A=true → a.sz ≤ 2 ^ 40 → PureC a:=by
 induction a using Node.ind with
 | h a ih1 ih2 =>
   intro X A hv hz s
   obtain ⟨p1,p2,_⟩:=vN_parts hv
   exact pure_c0 ds fs a hv hz (fun b hb=>by obtain ⟨_,_,h⟩:=p1 b hb;exact ih1 b hb h (by have:=Node.sz_arg hb;omega)) (fun b hb=>by obtain ⟨_,_,h⟩:=p2 b hb;exact ih2 b hb h (by have:=Node.sz_br hb;have:=b.sz_body;omega)) s
end Go.Sim.Kd
namespace Go.Sim.Kd
open Go Go.Sim
def xtorsT (l:List Xtor):Bool:=l.all fun x=>typedA x.args
def funP (g:CFun):Bool:=typedA g.params && pureN g.body
def isPureC (c:Core):Bool:=(c.decls.all fun d=>xtorsT d.xtors) && c.funs.all funP && decide (((c.funs.map fun g=>g.params.length)[0]?).getD 0=0)
theorem iP_l2 (c:Core) (l:List Xtor) (hx:∀ x ∈ l,x.args.length ≤ 2 ^ 40) (i:Nat) (hi:i ≤ l.length) (hs:l.length ≤ 2 ^ 40) {x10 x11 x12:AV} {n:Nat} {v:Nat → Bool} {D:List (Nat × List AV)} {S:Sg} {Q:Ex → Fr → Prop}
 (hX:∀ j,xtorsT (l.drop i)=true → Q (.exit 2) ⟨upd (upd (upd (upd (upd (upd (upd (upd ((fun _=>none)) 20 (some (.val (B false)))) 19 (some (.val (I j)))) 18 (some (.val (I (l.map Xtor.enc).length)))) 17 (some (.val (.slice .none 2 (l.map Xtor.enc))))) 12 (some (.val x12))) 11 (some (.val x11))) 10 (some (.val x10))) 1 (some (.loc 1 0)),upd ((fun _=>none)) 1 (some (Core.cs c)),n,v,D,S⟩) (hR:xtorsT (l.drop i)=false → Q .ret ⟨upd ((fun _=>none)) 2 (some (.val (B false))),(fun _=>none),n,v,D,S⟩):EX (callL p) (.loop F20_l2) ⟨upd (upd (upd (upd (upd (upd (upd ((fun _=>none)) 19 (some (.val (I i)))) 18 (some (.val (I (l.map Xtor.enc).length)))) 17 (some (.val (.slice .none 2 (l.map Xtor.enc))))) 12 (some (.val x12))) 11 (some (.val x11))) 10 (some (.val x10))) 1 (some (.loc 1 0)),upd ((fun _=>none)) 1 (some (Core.cs c)),n,v,D,S⟩ Q:=by
 refine eloop (er (qp rfl (qb ?_)))
 rintro (_ | _) h1
 ·refine qn (kq8 rfl rfl rfl rfl rfl rfl rfl rfl) (kq1 rfl) (eseq (ecF rfl (eexit (sqx ?_))))
  exact hX _ (by rw [List.drop_eq_nil_of_le (by simp at h1 ⊢;omega)];rfl)
 refine qn (kq8 rfl rfl rfl rfl rfl rfl rfl rfl) (kq1 rfl) (eseq (ecT rfl (eskip (sqn (eseq (eblock (er ?_)))))))
 have hlt:i < l.length:=by simpa using h1
 obtain ⟨a,ha⟩:=get_of_lt hlt
 have hd:=drop_cons ha
 refine hia (y:=Xtor.enc a) rfl rfl (by omega) (by simp [ha]) rfl (hlda rfl rfl (lc rfl (lc rfl (ln rfl))) (hal (dc (dc (dc (dc (dc (dc (dc (dc (dc (dc dn rfl) rfl) rfl) rfl) rfl) rfl) rfl) rfl) rfl) rfl) (hstl rfl rfl rfl rfl (Nlb rfl) (lc rfl (lc rfl (ln rfl))) (qk (kc rfl (kc rfl (kc rfl (kc rfl (kc rfl (kc rfl (kc rfl (kc rfl kn)))))))) (kc rfl (kc rfl kn)) (sqn (eseq (ereg (qp rfl (qp rfl (hcall rfl rfl rfl (typed_c _ a.args (hx a (Lmg ha))) ?_))))))))))
 rintro _ _ ⟨rfl,rfl⟩
 refine qb ?_
 rintro (_ | _) h2
 ·refine qp rfl (qn (kq8 rfl rfl rfl rfl rfl rfl rfl rfl) (kq1 rfl) (ecT rfl (er (qp rfl (qn (kq1 rfl) kn (eret (bqr (sqr ?_))))))))
  exact hR (by rw [hd];simp_all [xtorsT])
 refine qp rfl (qn (kq8 rfl rfl rfl rfl rfl rfl rfl rfl) (kq1 rfl) (ecF rfl (eskip (bqn (sqn (ereg (hadd rfl rfl (i64w (by omega)) (qp rfl (qk (kq7 rfl rfl rfl rfl rfl rfl rfl) (kq1 rfl) ?_)))))))))
 exact iP_l2 c l hx (i + 1) (by omega) hs (fun j h=>hX j (by rw [hd];simp_all [xtorsT])) (fun h=>hR (by rw [hd];simp_all [xtorsT]))
termination_by l.length - i
decreasing_by all_goals omega
theorem iP_l1 (c:Core) (l:List Decl) (hx:∀ d ∈ l,∀ x ∈ d.xtors,x.args.length ≤ 2 ^ 40) (hxl:∀ d ∈ l,d.xtors.length ≤ 2 ^ 40) (i:Nat) (hi:i ≤ l.length) (hs:l.length ≤ 2 ^ 40) {n:Nat} {v:Nat → Bool} {D:List (Nat × List AV)} {S:Sg} {Q:Ex → Fr → Prop}
 (hX:∀ j,((l.drop i).all fun d=>xtorsT d.xtors)=true → Q (.exit 0) ⟨upd (upd (upd (upd (upd ((fun _=>none)) 13 (some (.val (B false)))) 12 (some (.val (I j)))) 11 (some (.val (I (l.map Decl.enc).length)))) 10 (some (.val (.slice .none 3 (l.map Decl.enc))))) 1 (some (.loc 1 0)),upd ((fun _=>none)) 1 (some (Core.cs c)),n,v,D,S⟩) (hR:((l.drop i).all fun d=>xtorsT d.xtors)=false → Q .ret ⟨upd ((fun _=>none)) 2 (some (.val (B false))),(fun _=>none),n,v,D,S⟩):EX (callL p) (.loop F20_l1) ⟨upd (upd (upd (upd ((fun _=>none)) 12 (some (.val (I i)))) 11 (some (.val (I (l.map Decl.enc).length)))) 10 (some (.val (.slice .none 3 (l.map Decl.enc))))) 1 (some (.loc 1 0)),upd ((fun _=>none)) 1 (some (Core.cs c)),n,v,D,S⟩ Q:=by
 refine eloop (er (qp rfl (qb ?_)))
 rintro (_ | _) h1
 ·refine qn (kq5 rfl rfl rfl rfl rfl) (kq1 rfl) (eseq (ecF rfl (eexit (sqx ?_))))
  exact hX _ (by rw [List.drop_eq_nil_of_le (by simp at h1 ⊢;omega)];rfl)
 refine qn (kq5 rfl rfl rfl rfl rfl) (kq1 rfl) (eseq (ecT rfl (eskip (sqn (eseq (eblock (er ?_)))))))
 have hlt:i < l.length:=by simpa using h1
 obtain ⟨a,ha⟩:=get_of_lt hlt
 have hd:=drop_cons ha
 refine hia (y:=Decl.enc a) rfl rfl (by omega) (by simp [ha]) rfl (hlda rfl rfl (lc rfl (lc rfl (lc rfl (ln rfl)))) (hal (dc (dc (dc (dc (dc (dc (dc dn rfl) rfl) rfl) rfl) rfl) rfl) rfl) (hstl rfl rfl rfl rfl (Nlb rfl) (lc rfl (lc rfl (lc rfl (ln rfl)))) (qk (kc rfl (kc rfl (kc rfl (kc rfl (kc rfl kn))))) (kc rfl (kc rfl kn)) (sqn (eseq (ereg (qp rfl (qp rfl (qp rfl (qp rfl (qk (kc rfl (kc rfl (kc rfl (kc rfl (kc rfl (kc rfl (kc rfl kn))))))) (kc rfl kn) (sqn (eblock ?_))))))))))))))
 refine iP_l2 c a.xtors (hx a (Lmg ha)) 0 (by omega) (hxl a (Lmg ha)) ?_ ?_
 ·intro j ha2
  refine bqx (bqn (sqn (ereg (hadd rfl rfl (i64w (by omega)) (qp rfl (qk (kq4 rfl rfl rfl rfl) (kq1 rfl) ?_))))))
  exact iP_l1 c l hx hxl (i + 1) (by omega) hs (fun j h=>hX j (by rw [hd];simp_all)) (fun h=>hR (by rw [hd];simp_all))
 intro ha2
 refine bqr (bqr (sqr ?_))
 exact hR (by rw [hd];simp_all)
termination_by l.length - i
decreasing_by all_goals omega
theorem iP_l3 (c:Core) (l:List CFun) (hp:∀ g ∈ l,g.params.length ≤ 2 ^ 40) (H:∀ g ∈ l,PureC g.body) (i:Nat) (hi:i ≤ l.length) (hs:l.length ≤ 2 ^ 40) {n:Nat} {v:Nat → Bool} {D:List (Nat × List AV)} {S:Sg} {Q:Ex → Fr → Prop}
 (hX:∀ j,(l.drop i).all funP=true → Q (.exit 4) ⟨upd (upd (upd (upd (upd ((fun _=>none)) 33 (some (.val (B false)))) 32 (some (.val (I j)))) 31 (some (.val (I (l.map CFun.enc).length)))) 30 (some (.val (.slice .none 8 (l.map CFun.enc))))) 1 (some (.loc 1 0)),upd ((fun _=>none)) 1 (some (Core.cs c)),n,v,D,S⟩) (hR:(l.drop i).all funP=false → Q .ret ⟨upd ((fun _=>none)) 2 (some (.val (B false))),(fun _=>none),n,v,D,S⟩):EX (callL p) (.loop F20_l3) ⟨upd (upd (upd (upd ((fun _=>none)) 32 (some (.val (I i)))) 31 (some (.val (I (l.map CFun.enc).length)))) 30 (some (.val (.slice .none 8 (l.map CFun.enc))))) 1 (some (.loc 1 0)),upd ((fun _=>none)) 1 (some (Core.cs c)),n,v,D,S⟩ Q:=by
 refine eloop (er (qp rfl (qb ?_)))
 rintro (_ | _) h1
 ·refine qn (kq5 rfl rfl rfl rfl rfl) (kq1 rfl) (eseq (ecF rfl (eexit (sqx ?_))))
  exact hX _ (by rw [List.drop_eq_nil_of_le (by simp at h1 ⊢;omega)];rfl)
 refine qn (kq5 rfl rfl rfl rfl rfl) (kq1 rfl) (eseq (ecT rfl (eskip (sqn (eseq (eblock (er ?_)))))))
 have hlt:i < l.length:=by simpa using h1
 obtain ⟨a,ha⟩:=get_of_lt hlt
 have hd:=drop_cons ha
 refine hia (y:=.agg (Str a.name :: encArgs a.params :: ints a.vars :: a.body.cs)) rfl rfl (by omega) (by simp [ha,Node.enc_eq,Br.enc_eq,CFun.enc_eq]) rfl (hlda rfl rfl (lc rfl (lc rfl (lc rfl (lc rfl (lc rfl (lc rfl (lc rfl (lc rfl (ln rfl))))))))) (hal (dc (dc (dc (dc (dc (dc (dc dn rfl) rfl) rfl) rfl) rfl) rfl) rfl) (hstl rfl rfl rfl rfl (Nlb rfl) (lc rfl (lc rfl (lc rfl (lc rfl (lc rfl (lc rfl (lc rfl (lc rfl (ln rfl))))))))) (qk (kc rfl (kc rfl (kc rfl (kc rfl (kc rfl kn))))) (kc rfl (kc rfl kn)) (sqn (eseq (ereg (qp rfl (qp rfl (hcall rfl rfl rfl (typed_c _ a.params (hp a (Lmg ha))) ?_))))))))))
 rintro _ _ ⟨rfl,rfl⟩
 refine qb ?_
 rintro (_ | _) h2
 ·refine pq2 rfl rfl (zq4 rfl rfl rfl rfl (qp rfl (qn (kq5 rfl rfl rfl rfl rfl) (kq1 rfl) (ecT rfl (er (qp rfl (qn (kq1 rfl) kn (eret (bqr (sqr ?_))))))))))
  exact hR (by rw [hd];simp_all [funP])
 refine pq2 rfl rfl (qg rfl (qp rfl (qg rfl (hlda rfl rfl (lq5 rfl rfl rfl rfl rfl rfl) (qg rfl (hcall rfl rfl rfl (H a (Lmg ha) _) ?_))))))
 rintro _ _ ⟨rfl,rfl⟩
 refine qb ?_
 rintro (_ | _) h3
 ·refine qg rfl (pq2 rfl rfl (qn (kq5 rfl rfl rfl rfl rfl) (kq1 rfl) (ecT rfl (er (qp rfl (qn (kq1 rfl) kn (eret (bqr (sqr ?_)))))))))
  exact hR (by rw [hd];simp_all [funP])
 refine qg rfl (pq2 rfl rfl (qn (kq5 rfl rfl rfl rfl rfl) (kq1 rfl) (ecF rfl (eskip (bqn (sqn (ereg (hadd rfl rfl (i64w (by omega)) (qp rfl (qk (kq4 rfl rfl rfl rfl) (kq1 rfl) ?_))))))))))
 exact iP_l3 c l hp H (i + 1) (by omega) hs (fun j h=>hX j (by rw [hd];simp_all [funP])) (fun h=>hR (by rw [hd];simp_all [funP]))
termination_by l.length - i
decreasing_by all_goals omega
theorem isPure_c0 (s:Sg) (c:Core) (hc:CoreSz c) (hxl:∀ d ∈ c.decls,d.xtors.length ≤ 2 ^ 40) (hfl:c.funs.length ≤ 2 ^ 40) (h1:1 ≤ c.funs.length) (H:∀ g ∈ c.funs,PureC g.body):HC p N20_ [.agg (Core.cs c)] s (fun r s'=>r=[B (isPureC c)] ∧ s'=s):=by
 refine hcf rfl f20_ rfl ?_
 simp only [chainOf]
 refine er (hbox (dc dn rfl) rfl (lq2 rfl rfl rfl) (qp rfl (qn (kq1 rfl) (kq1 rfl) (eseq (er (pq4 rfl rfl rfl rfl (qn (kq4 rfl rfl rfl rfl) (kq1 rfl) (eblock ?_))))))))
 refine iP_l1 c c.decls hc.xa hxl 0 (by omega) hc.dl ?_ ?_
 ·intro j hk
  refine bqx (sqn (eseq (er (pq4 rfl rfl rfl rfl (qn (kq4 rfl rfl rfl rfl) (kq1 rfl) (eblock ?_))))))
  refine iP_l3 c c.funs hc.ga H 0 (by omega) hfl ?_ ?_
  ·intro q hq
   refine bqx (sqn (er (pq2 rfl rfl ?_)))
   obtain ⟨g0,hg0⟩:=get_of_lt (l:=c.funs) (i:=0) (by omega)
   refine hia (y:=.agg (Str g0.name :: encArgs g0.params :: ints g0.vars :: g0.body.cs)) rfl rfl (by decide) (by simp [hg0,CFun.enc_eq]) rfl (qp rfl (qp rfl (qp rfl (qp rfl (qp rfl (qk (kc rfl kn) kn (sqn (eret (fqr rfl ?_)))))))))
   refine ⟨congrArg (fun x=>[B x]) ?_,rfl⟩
   simp_all [isPureC,-List.all_eq_true,-List.all_eq_false] <;> omega
  intro hq
  refine bqr (sqr (fqr rfl ?_))
  refine ⟨congrArg (fun x=>[B x]) ?_,rfl⟩
  simp_all [isPureC,-List.all_eq_true,-List.all_eq_false] <;> omega
 intro hk
 refine bqr (sqr (fqr rfl ?_))
 refine ⟨congrArg (fun x=>[B x]) ?_,rfl⟩
 simp_all [isPureC,-List.all_eq_true,-List.all_eq_false] <;> omega
theorem isPure_c (s:Sg) (c:Core) (hc:CoreSz c) (hxl:∀ d ∈ c.decls,d.xtors.length ≤ 2 ^ 40) (hfl:c.funs.length ≤ 2 ^ 40) (hok:coreOk c=true) (hbz:∀ g ∈ c.funs,g.body.sz ≤ 2 ^ 40):HC p N20_ [.agg (Core.cs c)] s (fun r s'=>r=[B (isPureC c)] ∧ s'=s):=by
 refine isPure_c0 s c hc hxl hfl ?_ fun g hg=>?_
 ·have h:=hok
  unfold coreOk headsOk at h
  simp only [Bae,Dte] at h
  omega
 have h:=(core_body hok g hg).2.2.2
 exact pure_c _ _ _ h (hbz g hg)
theorem Pure_c (s:Sg) (hQ:QOK s) (c:Core) (hc:CoreSz c) (hxl:∀ d ∈ c.decls,d.xtors.length ≤ 2 ^ 40) (hfl:c.funs.length ≤ 2 ^ 40) (hfv:∀ g ∈ c.funs,g.vars.length ≤ 2 ^ 40) (hbz:∀ g ∈ c.funs,g.body.sz ≤ 2 ^ 40):HC p N8_ [.agg (Core.cs c)] s (fun r s'=>r=[B (coreOk c && isPureC c),I (if coreOk c=true then 0 else 60)] ∧ Ext s s'):=by
 refine hcf rfl f8_ rfl ?_
 simp only [chainOf]
 refine er (hbox (dc dn rfl) rfl (lq2 rfl rfl rfl) (pq2 rfl rfl (qn (kq1 rfl) (kq1 rfl) (eseq (er (hlda rfl rfl (lq2 rfl rfl rfl) (hcall rfl rfl rfl (cValid_c _ hQ c hc hfv hbz) ?_)))))))
 rintro _ S1 ⟨rfl,hE⟩
 refine qb ?_
 rintro (_ | _) h1
 ·refine qp rfl (qn (kq2 rfl rfl) (kq1 rfl) (ecT rfl (er (pq2 rfl rfl (qn (kq2 rfl rfl) kn (eret (sqr (fqr rfl ?_))))))))
  simp_all [AV.ers,AV.er]
 refine qp rfl (qn (kq2 rfl rfl) (kq1 rfl) (ecF rfl (eskip (sqn (er (hlda rfl rfl (lq2 rfl rfl rfl) (hcall rfl rfl rfl (isPure_c _ c hc hxl hfl (by simp_all) hbz) ?_)))))))
 rintro _ _ ⟨rfl,rfl⟩
 refine pq2 rfl rfl (qn (kq2 rfl rfl) kn (eret (fqr rfl ?_)))
 simp_all [AV.ers,AV.er]
end Go.Sim.Kd
namespace Go.Sim.Kd
open Go Go.Sim
structure ExtM (s s':Sg):Prop where
 e:Ext s s'
 mu:∀ g,g < s.mn → s'.mu g=s.mu g
 mn:s.mn ≤ s'.mn
theorem ExtM.refl (s:Sg):ExtM s s:=⟨Ext.refl s,fun _ _=>rfl,Nat.le_refl _⟩
theorem ExtM.trans {a b c:Sg} (h:ExtM a b) (k:ExtM b c):ExtM a c:=⟨h.e.trans k.e,fun g hg=>(k.mu g (Nat.lt_of_lt_of_le hg h.mn)).trans (h.mu g hg),Nat.le_trans h.mn k.mn⟩
theorem ExtM.new {s:Sg} {o:AObj}:ExtM s (s.new o):=⟨Ext.new,fun _ _=>rfl,Nat.le_refl _⟩
def DQ (s:Sg):Prop:=dualsIn s=true
theorem DQ.ext {s s':Sg} (h:DQ s) (e:ExtM s s'):DQ s':=by
 unfold DQ dualsIn at *
 rw [e.e.Q]
 exact h
def dArg (a:Arg):Arg:=⟨a.ty,!a.co⟩
def dXtor (x:Xtor):Xtor:=⟨x.name,x.args.map dArg⟩
def dDecl (d:Decl):Decl:=⟨d.name,!d.codata,d.xtors.map dXtor⟩
def dualOp (n:Int):Int:=(dualsL[n.toNat]?).getD 0
mutual
def dualN:Node → Node
 | .mk op n ty args brs=>.mk (dualOp op) n ty (if op=9 then (dualNs args).reverse else dualNs args) (dualBs brs)
def dualNs:List Node → List Node
 | []=>[]
 | a :: as=>dualN a :: dualNs as
def dualB:Br → Br
 | .mk vars co body=>.mk vars (co.map not) (dualN body)
def dualBs:List Br → List Br
 | []=>[]
 | a :: as=>dualB a :: dualBs as
end
theorem dualNs_eq (l:List Node):dualNs l=l.map dualN:=by induction l with
 | nil=>rfl
 | cons a l ih=>simp [dualNs,ih]
theorem dualBs_eq (l:List Br):dualBs l=l.map dualB:=by induction l with
 | nil=>rfl
 | cons a l ih=>simp [dualBs,ih]
theorem dualN_eq (a:Node):dualN a=.mk (dualOp a.op) a.n a.ty (if a.op=9 then (a.args.map dualN).reverse else a.args.map dualN) (a.brs.map dualB):=by
 cases a
 simp only [dualN,dualNs_eq,dualBs_eq,Node.op,Node.n,Node.ty,Node.args,Node.brs]
 rename_i op n ty args brs
 by_cases h:op=9 <;> simp [h]
theorem dualB_eq (b:Br):dualB b=.mk b.vars (b.co.map not) (dualN b.body):=by
 cases b
 rfl
def dFun (g:CFun):CFun:=⟨g.name,g.params.map dArg,g.vars,dualN g.body⟩
def dualC (c:Core):Core:=⟨c.decls.map dDecl,c.funs.map dFun⟩
theorem eachArg_l (l:List Arg) (g:Arg → Arg) (f:Nat) (H:∀ a ∈ l,∀ s,DQ s → HC p f [.agg [I a.ty,B a.co]] s (fun r s'=>r=[.agg [I (g a).ty,B (g a).co]] ∧ ExtM s s')) (o:Own) (i:Nat) (hi:i ≤ l.length) (hs:l.length ≤ 2 ^ 30) {n:Nat} {v:Nat → Bool} {D:List (Nat × List AV)} {S:Sg} {Q:Ex → Fr → Prop}
 (hD:DQ S) (hc:Can o v) (hX:∀ j n' v' o' S',Can o' v' → ExtM S S' → Q (.exit 0) ⟨upd (upd (upd (upd (upd (upd ((fun _=>none)) 11 (some (.val (B false)))) 10 (some (.val (I j)))) 9 (some (.val (I (l.map Arg.enc).length)))) 8 (some (.val (SL 2 (l.map Arg.enc))))) 5 (some (.val (.slice o' 2 (l.map (fun a=>Arg.enc (g a))))))) 1 (some (.val (.fn f [] []))),(fun _=>none),n',v',D,S'⟩):EX (callL p) (.loop F25_l1) ⟨upd (upd (upd (upd (upd ((fun _=>none)) 10 (some (.val (I i)))) 9 (some (.val (I (l.map Arg.enc).length)))) 8 (some (.val (SL 2 (l.map Arg.enc))))) 5 (some (.val (.slice o 2 ((l.take i).map (fun a=>Arg.enc (g a))))))) 1 (some (.val (.fn f [] []))),(fun _=>none),n,v,D,S⟩ Q:=by
 refine eloop (er (qp rfl (qb ?_)))
 rintro (_ | _) h1
 ·refine qn (kq6 rfl rfl rfl rfl rfl rfl) kn (eseq (ecF rfl (eexit (sqx ?_))))
  have he:i=l.length:=by simp at h1;omega
  subst he
  rw [List.take_length]
  exact hX _ _ _ _ _ hc (ExtM.refl _)
 refine qn (kq6 rfl rfl rfl rfl rfl rfl) kn (eseq (ecT rfl (eskip (sqn (eseq (eblock (er ?_)))))))
 have hlt:i < l.length:=by simpa using h1
 obtain ⟨a,ha⟩:=get_of_lt hlt
 have hd:=drop_cons ha
 refine hia (y:=.agg [I a.ty,B a.co]) rfl rfl (by omega) (by simp [ha,Arg.enc]) rfl (hlda rfl rfl (lc rfl (lc rfl (ln rfl))) (hal (dc (dc (dc (dc (dc (dc (dc (dc dn rfl) rfl) rfl) rfl) rfl) rfl) rfl) rfl) (hstl rfl rfl rfl rfl (Nlb rfl) (lc rfl (lc rfl (ln rfl))) (qk (kc rfl (kc rfl (kc rfl (kc rfl (kc rfl (kc rfl kn)))))) (kc rfl kn) (sqn (ereg (qp rfl (qp rfl (hlda rfl rfl (lc rfl (lc rfl (ln rfl))) (hcall rfl rfl rfl (H a (Lmg ha) _ hD) ?_))))))))))
 rintro _ S1 ⟨rfl,hE⟩
 refine hbsl rfl rfl (lc rfl (ln rfl)) (hapC rfl rfl hc (by simp) (by simp;omega) (r:=(l.take (i + 1)).map (fun a=>Arg.enc (g a))) (by rw [← take_map (g:=fun a=>Arg.enc (g a)) ha];(first | (simp [AV.ers,AV.er,Arg.enc];done) | (simp [AV.ers,AV.er,Arg.enc];rfl))) ?_)
 intro v1 hc1 _
 refine qp rfl (qk (kq5 rfl rfl rfl rfl rfl) kn (bqn (sqn (ereg (hadd rfl rfl (i64w (by omega)) (qp rfl (qk (kq5 rfl rfl rfl rfl rfl) kn ?_)))))))
 exact eachArg_l l g f H (.tip n) (i + 1) (by omega) hs (hD.ext hE) hc1 (fun j n' v' o' S' h1 h2=>hX j n' v' o' S' h1 (hE.trans h2))
termination_by l.length - i
decreasing_by all_goals omega
theorem eachArg_c (l:List Arg) (g:Arg → Arg) (f:Nat) (H:∀ a ∈ l,∀ s,DQ s → HC p f [.agg [I a.ty,B a.co]] s (fun r s'=>r=[.agg [I (g a).ty,B (g a).co]] ∧ ExtM s s')) (hs:l.length ≤ 2 ^ 30) (s:Sg) (hD:DQ s):HC p N25_ [SL 2 (l.map Arg.enc),.fn f [] []] s (fun r s'=>r=[SL 2 (l.map (fun a=>Arg.enc (g a)))] ∧ ExtM s s'):=by
 refine hcf rfl f25_ rfl ?_
 simp only [chainOf]
 refine er (qp rfl (qn (kq2 rfl rfl) kn (er (qp rfl (qn (kq3 rfl rfl rfl) kn (eseq (er (pq3 rfl rfl rfl (qn (kq5 rfl rfl rfl rfl rfl) kn (eblock (eachArg_l l g f H .full 0 (by omega) hs hD trivial ?_)))))))))))
 intro j n' v' o' S' hc hE
 refine bqx (sqn (er (pq2 rfl rfl (qn (kq1 rfl) kn (eret (fqr rfl ?_))))))
 exact ⟨rfl,hE⟩
theorem eachXtor_l (l:List Xtor) (g:Xtor → Xtor) (f:Nat) (H:∀ a ∈ l,∀ s,DQ s → HC p f [.agg [Str a.name,encArgs a.args]] s (fun r s'=>r=[.agg [Str (g a).name,encArgs (g a).args]] ∧ ExtM s s')) (o:Own) (i:Nat) (hi:i ≤ l.length) (hs:l.length ≤ 2 ^ 30) {n:Nat} {v:Nat → Bool} {D:List (Nat × List AV)} {S:Sg} {Q:Ex → Fr → Prop}
 (hD:DQ S) (hc:Can o v) (hX:∀ j n' v' o' S',Can o' v' → ExtM S S' → Q (.exit 0) ⟨upd (upd (upd (upd (upd (upd ((fun _=>none)) 11 (some (.val (B false)))) 10 (some (.val (I j)))) 9 (some (.val (I (l.map Xtor.enc).length)))) 8 (some (.val (SL 2 (l.map Xtor.enc))))) 5 (some (.val (.slice o' 2 (l.map (fun a=>Xtor.enc (g a))))))) 1 (some (.val (.fn f [] []))),(fun _=>none),n',v',D,S'⟩):EX (callL p) (.loop F23_l1) ⟨upd (upd (upd (upd (upd ((fun _=>none)) 10 (some (.val (I i)))) 9 (some (.val (I (l.map Xtor.enc).length)))) 8 (some (.val (SL 2 (l.map Xtor.enc))))) 5 (some (.val (.slice o 2 ((l.take i).map (fun a=>Xtor.enc (g a))))))) 1 (some (.val (.fn f [] []))),(fun _=>none),n,v,D,S⟩ Q:=by
 refine eloop (er (qp rfl (qb ?_)))
 rintro (_ | _) h1
 ·refine qn (kq6 rfl rfl rfl rfl rfl rfl) kn (eseq (ecF rfl (eexit (sqx ?_))))
  have he:i=l.length:=by simp at h1;omega
  subst he
  rw [List.take_length]
  exact hX _ _ _ _ _ hc (ExtM.refl _)
 refine qn (kq6 rfl rfl rfl rfl rfl rfl) kn (eseq (ecT rfl (eskip (sqn (eseq (eblock (er ?_)))))))
 have hlt:i < l.length:=by simpa using h1
 obtain ⟨a,ha⟩:=get_of_lt hlt
 have hd:=drop_cons ha
 refine hia (y:=.agg [Str a.name,encArgs a.args]) rfl rfl (by omega) (by simp [ha,Xtor.enc]) rfl (hlda rfl rfl (lc rfl (lc rfl (ln rfl))) (hal (dc (dc (dc (dc (dc (dc (dc (dc dn rfl) rfl) rfl) rfl) rfl) rfl) rfl) rfl) (hstl rfl rfl rfl rfl (Nlb rfl) (lc rfl (lc rfl (ln rfl))) (qk (kc rfl (kc rfl (kc rfl (kc rfl (kc rfl (kc rfl kn)))))) (kc rfl kn) (sqn (ereg (qp rfl (qp rfl (hlda rfl rfl (lc rfl (lc rfl (ln rfl))) (hcall rfl rfl rfl (H a (Lmg ha) _ hD) ?_))))))))))
 rintro _ S1 ⟨rfl,hE⟩
 refine hbsl rfl rfl (lc rfl (ln rfl)) (hapC rfl rfl hc (by simp) (by simp;omega) (r:=(l.take (i + 1)).map (fun a=>Xtor.enc (g a))) (by rw [← take_map (g:=fun a=>Xtor.enc (g a)) ha];(first | (simp [AV.ers,AV.er,Xtor.enc];done) | (simp [AV.ers,AV.er,Xtor.enc];rfl))) ?_)
 intro v1 hc1 _
 refine qp rfl (qk (kq5 rfl rfl rfl rfl rfl) kn (bqn (sqn (ereg (hadd rfl rfl (i64w (by omega)) (qp rfl (qk (kq5 rfl rfl rfl rfl rfl) kn ?_)))))))
 exact eachXtor_l l g f H (.tip n) (i + 1) (by omega) hs (hD.ext hE) hc1 (fun j n' v' o' S' h1 h2=>hX j n' v' o' S' h1 (hE.trans h2))
termination_by l.length - i
decreasing_by all_goals omega
theorem eachXtor_c (l:List Xtor) (g:Xtor → Xtor) (f:Nat) (H:∀ a ∈ l,∀ s,DQ s → HC p f [.agg [Str a.name,encArgs a.args]] s (fun r s'=>r=[.agg [Str (g a).name,encArgs (g a).args]] ∧ ExtM s s')) (hs:l.length ≤ 2 ^ 30) (s:Sg) (hD:DQ s):HC p N23_ [SL 2 (l.map Xtor.enc),.fn f [] []] s (fun r s'=>r=[SL 2 (l.map (fun a=>Xtor.enc (g a)))] ∧ ExtM s s'):=by
 refine hcf rfl f23_ rfl ?_
 simp only [chainOf]
 refine er (qp rfl (qn (kq2 rfl rfl) kn (er (qp rfl (qn (kq3 rfl rfl rfl) kn (eseq (er (pq3 rfl rfl rfl (qn (kq5 rfl rfl rfl rfl rfl) kn (eblock (eachXtor_l l g f H .full 0 (by omega) hs hD trivial ?_)))))))))))
 intro j n' v' o' S' hc hE
 refine bqx (sqn (er (pq2 rfl rfl (qn (kq1 rfl) kn (eret (fqr rfl ?_))))))
 exact ⟨rfl,hE⟩
theorem eachDecl_l (l:List Decl) (g:Decl → Decl) (f:Nat) (H:∀ a ∈ l,∀ s,DQ s → HC p f [.agg [Str a.name,B a.codata,SL 2 (a.xtors.map Xtor.enc)]] s (fun r s'=>r=[.agg [Str (g a).name,B (g a).codata,SL 2 ((g a).xtors.map Xtor.enc)]] ∧ ExtM s s')) (o:Own) (i:Nat) (hi:i ≤ l.length) (hs:l.length ≤ 2 ^ 30) {n:Nat} {v:Nat → Bool} {D:List (Nat × List AV)} {S:Sg} {Q:Ex → Fr → Prop}
 (hD:DQ S) (hc:Can o v) (hX:∀ j n' v' o' S',Can o' v' → ExtM S S' → Q (.exit 0) ⟨upd (upd (upd (upd (upd (upd ((fun _=>none)) 11 (some (.val (B false)))) 10 (some (.val (I j)))) 9 (some (.val (I (l.map Decl.enc).length)))) 8 (some (.val (SL 3 (l.map Decl.enc))))) 5 (some (.val (.slice o' 3 (l.map (fun a=>Decl.enc (g a))))))) 1 (some (.val (.fn f [] []))),(fun _=>none),n',v',D,S'⟩):EX (callL p) (.loop F21_l1) ⟨upd (upd (upd (upd (upd ((fun _=>none)) 10 (some (.val (I i)))) 9 (some (.val (I (l.map Decl.enc).length)))) 8 (some (.val (SL 3 (l.map Decl.enc))))) 5 (some (.val (.slice o 3 ((l.take i).map (fun a=>Decl.enc (g a))))))) 1 (some (.val (.fn f [] []))),(fun _=>none),n,v,D,S⟩ Q:=by
 refine eloop (er (qp rfl (qb ?_)))
 rintro (_ | _) h1
 ·refine qn (kq6 rfl rfl rfl rfl rfl rfl) kn (eseq (ecF rfl (eexit (sqx ?_))))
  have he:i=l.length:=by simp at h1;omega
  subst he
  rw [List.take_length]
  exact hX _ _ _ _ _ hc (ExtM.refl _)
 refine qn (kq6 rfl rfl rfl rfl rfl rfl) kn (eseq (ecT rfl (eskip (sqn (eseq (eblock (er ?_)))))))
 have hlt:i < l.length:=by simpa using h1
 obtain ⟨a,ha⟩:=get_of_lt hlt
 have hd:=drop_cons ha
 refine hia (y:=.agg [Str a.name,B a.codata,SL 2 (a.xtors.map Xtor.enc)]) rfl rfl (by omega) (by simp [ha,Decl.enc]) rfl (hlda rfl rfl (lc rfl (lc rfl (lc rfl (ln rfl)))) (hal (dc (dc (dc (dc (dc (dc (dc (dc dn rfl) rfl) rfl) rfl) rfl) rfl) rfl) rfl) (hstl rfl rfl rfl rfl (Nlb rfl) (lc rfl (lc rfl (lc rfl (ln rfl)))) (qk (kc rfl (kc rfl (kc rfl (kc rfl (kc rfl (kc rfl kn)))))) (kc rfl kn) (sqn (ereg (qp rfl (qp rfl (hlda rfl rfl (lc rfl (lc rfl (lc rfl (ln rfl)))) (hcall rfl rfl rfl (H a (Lmg ha) _ hD) ?_))))))))))
 rintro _ S1 ⟨rfl,hE⟩
 refine hbsl rfl rfl (lc rfl (ln rfl)) (hapC rfl rfl hc (by simp) (by simp;omega) (r:=(l.take (i + 1)).map (fun a=>Decl.enc (g a))) (by rw [← take_map (g:=fun a=>Decl.enc (g a)) ha];(first | (simp [AV.ers,AV.er,Decl.enc];done) | (simp [AV.ers,AV.er,Decl.enc];rfl))) ?_)
 intro v1 hc1 _
 refine qp rfl (qk (kq5 rfl rfl rfl rfl rfl) kn (bqn (sqn (ereg (hadd rfl rfl (i64w (by omega)) (qp rfl (qk (kq5 rfl rfl rfl rfl rfl) kn ?_)))))))
 exact eachDecl_l l g f H (.tip n) (i + 1) (by omega) hs (hD.ext hE) hc1 (fun j n' v' o' S' h1 h2=>hX j n' v' o' S' h1 (hE.trans h2))
termination_by l.length - i
decreasing_by all_goals omega
theorem eachDecl_c (l:List Decl) (g:Decl → Decl) (f:Nat) (H:∀ a ∈ l,∀ s,DQ s → HC p f [.agg [Str a.name,B a.codata,SL 2 (a.xtors.map Xtor.enc)]] s (fun r s'=>r=[.agg [Str (g a).name,B (g a).codata,SL 2 ((g a).xtors.map Xtor.enc)]] ∧ ExtM s s')) (hs:l.length ≤ 2 ^ 30) (s:Sg) (hD:DQ s):HC p N21_ [SL 3 (l.map Decl.enc),.fn f [] []] s (fun r s'=>r=[SL 3 (l.map (fun a=>Decl.enc (g a)))] ∧ ExtM s s'):=by
 refine hcf rfl f21_ rfl ?_
 simp only [chainOf]
 refine er (qp rfl (qn (kq2 rfl rfl) kn (er (qp rfl (qn (kq3 rfl rfl rfl) kn (eseq (er (pq3 rfl rfl rfl (qn (kq5 rfl rfl rfl rfl rfl) kn (eblock (eachDecl_l l g f H .full 0 (by omega) hs hD trivial ?_)))))))))))
 intro j n' v' o' S' hc hE
 refine bqx (sqn (er (pq2 rfl rfl (qn (kq1 rfl) kn (eret (fqr rfl ?_))))))
 exact ⟨rfl,hE⟩
theorem eachBranch_l (l:List Br) (g:Br → Br) (f:Nat) (H:∀ a ∈ l,∀ s,DQ s → HC p f [.agg (ints a.vars :: bools a.co :: a.body.cs)] s (fun r s'=>r=[.agg (ints (g a).vars :: bools (g a).co :: (g a).body.cs)] ∧ ExtM s s')) (o:Own) (i:Nat) (hi:i ≤ l.length) (hs:l.length ≤ 2 ^ 30) {n:Nat} {v:Nat → Bool} {D:List (Nat × List AV)} {S:Sg} {Q:Ex → Fr → Prop}
 (hD:DQ S) (hc:Can o v) (hX:∀ j n' v' o' S',Can o' v' → ExtM S S' → Q (.exit 0) ⟨upd (upd (upd (upd (upd (upd ((fun _=>none)) 11 (some (.val (B false)))) 10 (some (.val (I j)))) 9 (some (.val (I (l.map Br.enc).length)))) 8 (some (.val (SL 7 (l.map Br.enc))))) 5 (some (.val (.slice o' 7 (l.map (fun a=>Br.enc (g a))))))) 1 (some (.val (.fn f [] []))),(fun _=>none),n',v',D,S'⟩):EX (callL p) (.loop F68_l1) ⟨upd (upd (upd (upd (upd ((fun _=>none)) 10 (some (.val (I i)))) 9 (some (.val (I (l.map Br.enc).length)))) 8 (some (.val (SL 7 (l.map Br.enc))))) 5 (some (.val (.slice o 7 ((l.take i).map (fun a=>Br.enc (g a))))))) 1 (some (.val (.fn f [] []))),(fun _=>none),n,v,D,S⟩ Q:=by
 refine eloop (er (qp rfl (qb ?_)))
 rintro (_ | _) h1
 ·refine qn (kq6 rfl rfl rfl rfl rfl rfl) kn (eseq (ecF rfl (eexit (sqx ?_))))
  have he:i=l.length:=by simp at h1;omega
  subst he
  rw [List.take_length]
  exact hX _ _ _ _ _ hc (ExtM.refl _)
 refine qn (kq6 rfl rfl rfl rfl rfl rfl) kn (eseq (ecT rfl (eskip (sqn (eseq (eblock (er ?_)))))))
 have hlt:i < l.length:=by simpa using h1
 obtain ⟨a,ha⟩:=get_of_lt hlt
 have hd:=drop_cons ha
 refine hia (y:=.agg (ints a.vars :: bools a.co :: a.body.cs)) rfl rfl (by omega) (by simp [ha,Br.enc_eq]) rfl (hlda rfl rfl (lc rfl (lc rfl (lc rfl (lc rfl (lc rfl (lc rfl (lc rfl (ln rfl)))))))) (hal (dc (dc (dc (dc (dc (dc (dc (dc dn rfl) rfl) rfl) rfl) rfl) rfl) rfl) rfl) (hstl rfl rfl rfl rfl (Nlb rfl) (lc rfl (lc rfl (lc rfl (lc rfl (lc rfl (lc rfl (lc rfl (ln rfl)))))))) (qk (kc rfl (kc rfl (kc rfl (kc rfl (kc rfl (kc rfl kn)))))) (kc rfl kn) (sqn (ereg (qp rfl (qp rfl (hlda rfl rfl (lc rfl (lc rfl (lc rfl (lc rfl (lc rfl (lc rfl (lc rfl (ln rfl)))))))) (hcall rfl rfl rfl (H a (Lmg ha) _ hD) ?_))))))))))
 rintro _ S1 ⟨rfl,hE⟩
 refine hbsl rfl rfl (lc rfl (ln rfl)) (hapC rfl rfl hc (by simp) (by simp;omega) (r:=(l.take (i + 1)).map (fun a=>Br.enc (g a))) (by rw [← take_map (g:=fun a=>Br.enc (g a)) ha];(first | (simp [AV.ers,AV.er,Br.enc_eq];done) | (simp [AV.ers,AV.er,Br.enc_eq];rfl))) ?_)
 intro v1 hc1 _
 refine qp rfl (qk (kq5 rfl rfl rfl rfl rfl) kn (bqn (sqn (ereg (hadd rfl rfl (i64w (by omega)) (qp rfl (qk (kq5 rfl rfl rfl rfl rfl) kn ?_)))))))
 exact eachBranch_l l g f H (.tip n) (i + 1) (by omega) hs (hD.ext hE) hc1 (fun j n' v' o' S' h1 h2=>hX j n' v' o' S' h1 (hE.trans h2))
termination_by l.length - i
decreasing_by all_goals omega
theorem eachBranch_c (l:List Br) (g:Br → Br) (f:Nat) (H:∀ a ∈ l,∀ s,DQ s → HC p f [.agg (ints a.vars :: bools a.co :: a.body.cs)] s (fun r s'=>r=[.agg (ints (g a).vars :: bools (g a).co :: (g a).body.cs)] ∧ ExtM s s')) (hs:l.length ≤ 2 ^ 30) (s:Sg) (hD:DQ s):HC p N68_ [SL 7 (l.map Br.enc),.fn f [] []] s (fun r s'=>r=[SL 7 (l.map (fun a=>Br.enc (g a)))] ∧ ExtM s s'):=by
 refine hcf rfl f68_ rfl ?_
 simp only [chainOf]
 refine er (qp rfl (qn (kq2 rfl rfl) kn (er (qp rfl (qn (kq3 rfl rfl rfl) kn (eseq (er (pq3 rfl rfl rfl (qn (kq5 rfl rfl rfl rfl rfl) kn (eblock (eachBranch_l l g f H .full 0 (by omega) hs hD trivial ?_)))))))))))
 intro j n' v' o' S' hc hE
 refine bqx (sqn (er (pq2 rfl rfl (qn (kq1 rfl) kn (eret (fqr rfl ?_))))))
 exact ⟨rfl,hE⟩
theorem eachCoreFun_l (l:List CFun) (g:CFun → CFun) (f:Nat) (H:∀ a ∈ l,∀ s,DQ s → HC p f [.agg (Str a.name :: encArgs a.params :: ints a.vars :: a.body.cs)] s (fun r s'=>r=[.agg (Str (g a).name :: encArgs (g a).params :: ints (g a).vars :: (g a).body.cs)] ∧ ExtM s s')) (o:Own) (i:Nat) (hi:i ≤ l.length) (hs:l.length ≤ 2 ^ 30) {n:Nat} {v:Nat → Bool} {D:List (Nat × List AV)} {S:Sg} {Q:Ex → Fr → Prop}
 (hD:DQ S) (hc:Can o v) (hX:∀ j n' v' o' S',Can o' v' → ExtM S S' → Q (.exit 0) ⟨upd (upd (upd (upd (upd (upd ((fun _=>none)) 11 (some (.val (B false)))) 10 (some (.val (I j)))) 9 (some (.val (I (l.map CFun.enc).length)))) 8 (some (.val (SL 8 (l.map CFun.enc))))) 5 (some (.val (.slice o' 8 (l.map (fun a=>CFun.enc (g a))))))) 1 (some (.val (.fn f [] []))),(fun _=>none),n',v',D,S'⟩):EX (callL p) (.loop F27_l1) ⟨upd (upd (upd (upd (upd ((fun _=>none)) 10 (some (.val (I i)))) 9 (some (.val (I (l.map CFun.enc).length)))) 8 (some (.val (SL 8 (l.map CFun.enc))))) 5 (some (.val (.slice o 8 ((l.take i).map (fun a=>CFun.enc (g a))))))) 1 (some (.val (.fn f [] []))),(fun _=>none),n,v,D,S⟩ Q:=by
 refine eloop (er (qp rfl (qb ?_)))
 rintro (_ | _) h1
 ·refine qn (kq6 rfl rfl rfl rfl rfl rfl) kn (eseq (ecF rfl (eexit (sqx ?_))))
  have he:i=l.length:=by simp at h1;omega
  subst he
  rw [List.take_length]
  exact hX _ _ _ _ _ hc (ExtM.refl _)
 refine qn (kq6 rfl rfl rfl rfl rfl rfl) kn (eseq (ecT rfl (eskip (sqn (eseq (eblock (er ?_)))))))
 have hlt:i < l.length:=by simpa using h1
 obtain ⟨a,ha⟩:=get_of_lt hlt
 have hd:=drop_cons ha
 refine hia (y:=.agg (Str a.name :: encArgs a.params :: ints a.vars :: a.body.cs)) rfl rfl (by omega) (by simp [ha,CFun.enc_eq]) rfl (hlda rfl rfl (lc rfl (lc rfl (lc rfl (lc rfl (lc rfl (lc rfl (lc rfl (lc rfl (ln rfl))))))))) (hal (dc (dc (dc (dc (dc (dc (dc (dc dn rfl) rfl) rfl) rfl) rfl) rfl) rfl) rfl) (hstl rfl rfl rfl rfl (Nlb rfl) (lc rfl (lc rfl (lc rfl (lc rfl (lc rfl (lc rfl (lc rfl (lc rfl (ln rfl))))))))) (qk (kc rfl (kc rfl (kc rfl (kc rfl (kc rfl (kc rfl kn)))))) (kc rfl kn) (sqn (ereg (qp rfl (qp rfl (hlda rfl rfl (lc rfl (lc rfl (lc rfl (lc rfl (lc rfl (lc rfl (lc rfl (lc rfl (ln rfl))))))))) (hcall rfl rfl rfl (H a (Lmg ha) _ hD) ?_))))))))))
 rintro _ S1 ⟨rfl,hE⟩
 refine hbsl rfl rfl (lc rfl (ln rfl)) (hapC rfl rfl hc (by simp) (by simp;omega) (r:=(l.take (i + 1)).map (fun a=>CFun.enc (g a))) (by rw [← take_map (g:=fun a=>CFun.enc (g a)) ha];(first | (simp [AV.ers,AV.er,CFun.enc_eq];done) | (simp [AV.ers,AV.er,CFun.enc_eq];rfl))) ?_)
 intro v1 hc1 _
 refine qp rfl (qk (kq5 rfl rfl rfl rfl rfl) kn (bqn (sqn (ereg (hadd rfl rfl (i64w (by omega)) (qp rfl (qk (kq5 rfl rfl rfl rfl rfl) kn ?_)))))))
 exact eachCoreFun_l l g f H (.tip n) (i + 1) (by omega) hs (hD.ext hE) hc1 (fun j n' v' o' S' h1 h2=>hX j n' v' o' S' h1 (hE.trans h2))
termination_by l.length - i
decreasing_by all_goals omega
theorem eachCoreFun_c (l:List CFun) (g:CFun → CFun) (f:Nat) (H:∀ a ∈ l,∀ s,DQ s → HC p f [.agg (Str a.name :: encArgs a.params :: ints a.vars :: a.body.cs)] s (fun r s'=>r=[.agg (Str (g a).name :: encArgs (g a).params :: ints (g a).vars :: (g a).body.cs)] ∧ ExtM s s')) (hs:l.length ≤ 2 ^ 30) (s:Sg) (hD:DQ s):HC p N27_ [SL 8 (l.map CFun.enc),.fn f [] []] s (fun r s'=>r=[SL 8 (l.map (fun a=>CFun.enc (g a)))] ∧ ExtM s s'):=by
 refine hcf rfl f27_ rfl ?_
 simp only [chainOf]
 refine er (qp rfl (qn (kq2 rfl rfl) kn (er (qp rfl (qn (kq3 rfl rfl rfl) kn (eseq (er (pq3 rfl rfl rfl (qn (kq5 rfl rfl rfl rfl rfl) kn (eblock (eachCoreFun_l l g f H .full 0 (by omega) hs hD trivial ?_)))))))))))
 intro j n' v' o' S' hc hE
 refine bqx (sqn (er (pq2 rfl rfl (qn (kq1 rfl) kn (eret (fqr rfl ?_))))))
 exact ⟨rfl,hE⟩
theorem eachbool_l (l:List Bool) (g:Bool → Bool) (f:Nat) (H:∀ a ∈ l,∀ s,DQ s → HC p f [B a] s (fun r s'=>r=[B (g a)] ∧ ExtM s s')) (o:Own) (i:Nat) (hi:i ≤ l.length) (hs:l.length ≤ 2 ^ 30) {n:Nat} {v:Nat → Bool} {D:List (Nat × List AV)} {S:Sg} {Q:Ex → Fr → Prop}
 (hD:DQ S) (hc:Can o v) (hX:∀ j n' v' o' S',Can o' v' → ExtM S S' → Q (.exit 0) ⟨upd (upd (upd (upd (upd (upd ((fun _=>none)) 11 (some (.val (B false)))) 10 (some (.val (I j)))) 9 (some (.val (I (l.map B).length)))) 8 (some (.val (SL 1 (l.map B))))) 5 (some (.val (.slice o' 1 (l.map (fun a=>B (g a))))))) 1 (some (.val (.fn f [] []))),(fun _=>none),n',v',D,S'⟩):EX (callL p) (.loop F70_l1) ⟨upd (upd (upd (upd (upd ((fun _=>none)) 10 (some (.val (I i)))) 9 (some (.val (I (l.map B).length)))) 8 (some (.val (SL 1 (l.map B))))) 5 (some (.val (.slice o 1 ((l.take i).map (fun a=>B (g a))))))) 1 (some (.val (.fn f [] []))),(fun _=>none),n,v,D,S⟩ Q:=by
 refine eloop (er (qp rfl (qb ?_)))
 rintro (_ | _) h1
 ·refine qn (kq6 rfl rfl rfl rfl rfl rfl) kn (eseq (ecF rfl (eexit (sqx ?_))))
  have he:i=l.length:=by simp at h1;omega
  subst he
  rw [List.take_length]
  exact hX _ _ _ _ _ hc (ExtM.refl _)
 refine qn (kq6 rfl rfl rfl rfl rfl rfl) kn (eseq (ecT rfl (eskip (sqn (eseq (eblock (er ?_)))))))
 have hlt:i < l.length:=by simpa using h1
 obtain ⟨a,ha⟩:=get_of_lt hlt
 have hd:=drop_cons ha
 refine hia (y:=B a) rfl rfl (by omega) (by simp [ha]) rfl (qp rfl (qp rfl (qk (kc rfl (kc rfl (kc rfl (kc rfl (kc rfl (kc rfl kn)))))) kn (sqn (ereg (qp rfl (qp rfl (qp rfl (hcall rfl rfl rfl (H a (Lmg ha) _ hD) ?_)))))))))
 rintro _ S1 ⟨rfl,hE⟩
 refine hbsl rfl rfl (lc rfl (ln rfl)) (hapC rfl rfl hc (by simp) (by simp;omega) (r:=(l.take (i + 1)).map (fun a=>B (g a))) (by rw [← take_map (g:=fun a=>B (g a)) ha];(first | (simp [AV.ers,AV.er];done) | (simp [AV.ers,AV.er];rfl))) ?_)
 intro v1 hc1 _
 refine qp rfl (qk (kq5 rfl rfl rfl rfl rfl) kn (bqn (sqn (ereg (hadd rfl rfl (i64w (by omega)) (qp rfl (qk (kq5 rfl rfl rfl rfl rfl) kn ?_)))))))
 exact eachbool_l l g f H (.tip n) (i + 1) (by omega) hs (hD.ext hE) hc1 (fun j n' v' o' S' h1 h2=>hX j n' v' o' S' h1 (hE.trans h2))
termination_by l.length - i
decreasing_by all_goals omega
theorem eachbool_c (l:List Bool) (g:Bool → Bool) (f:Nat) (H:∀ a ∈ l,∀ s,DQ s → HC p f [B a] s (fun r s'=>r=[B (g a)] ∧ ExtM s s')) (hs:l.length ≤ 2 ^ 30) (s:Sg) (hD:DQ s):HC p N70_ [SL 1 (l.map B),.fn f [] []] s (fun r s'=>r=[SL 1 (l.map (fun a=>B (g a)))] ∧ ExtM s s'):=by
 refine hcf rfl f70_ rfl ?_
 simp only [chainOf]
 refine er (qp rfl (qn (kq2 rfl rfl) kn (er (qp rfl (qn (kq3 rfl rfl rfl) kn (eseq (er (pq3 rfl rfl rfl (qn (kq5 rfl rfl rfl rfl rfl) kn (eblock (eachbool_l l g f H .full 0 (by omega) hs hD trivial ?_)))))))))))
 intro j n' v' o' S' hc hE
 refine bqx (sqn (er (pq2 rfl rfl (qn (kq1 rfl) kn (eret (fqr rfl ?_))))))
 exact ⟨rfl,hE⟩
end Go.Sim.Kd
namespace Go.Sim.Kd
open Go Go.Sim
section
variable {c:Caller} {l:List AIns} {E:Nat → Option TV} {L:Nat → Option (List AV)} {n:Nat} {v:Nat → Bool} {D:List (Nat × List AV)} {S:Sg} {Q:Fr → Prop}
theorem hldc {d off:Nat} {a:AO} {cs:List AV} {y:AV} (h1:ev E a=some (.val (.cptr cs off))) (h2:cs[off]?=some y)
 (k:HL c l ⟨upd E d (some (.val y)),L,n,v,D,S⟩ Q):HL c (⟨some d,none,.ld false none a⟩ :: l) ⟨E,L,n,v,D,S⟩ Q :=
 hop (by simp only [ins,run1,aop,h1,Obs,ldAt,rd,h2];rfl) k
end
theorem hcallq {p:Pg} {E:Nat → Option TV} {L:Nat → Option (List AV)} {n:Nat} {v:Nat → Bool} {D:List (Nat × List AV)} {S:Sg} {l:List AIns} {Q:Fr → Prop} {d:Nat} {f:AO} {as:List AO} {g:Nat} {a b q q':List AV} {R:List AV → Sg → Prop}
 (h1:evV E f=some (.fn g a b)) (h2:evVs E as=some q) (h3:AV.ers (a ++ q ++ b)=q') (h4:HC p g q' S R) (hq:∀ res S',R res S' → S'.Q=S.Q) (k:∀ res S',R res S' → HL (callL p) l ⟨upd E d (some (toTV res)),L,n,v,D,S'⟩ Q) :
 HL (callL p) (⟨some d,none,.callq [] f as⟩ :: l) ⟨E,L,n,v,D,S⟩ Q:=by
 subst h3
 obtain ⟨res,S',h5,h6⟩:=h4
 refine hop ?_ (k res S' h6)
 simp only [ins,run1,aop,h1,h2,Obs,callOf,h5,qres]
 rw [if_pos (show keeps E S S' [] from hq res S' h6)]
 rfl
theorem cs_len (a:Node):a.cs.length=5:=rfl
def fcs (ns:List Node):List AV:=ns.flatMap Node.cs
theorem fcs_len (ns:List Node):(fcs ns).length=ns.length * 5:=by
 unfold fcs
 induction ns with
 | nil=>rfl
 | cons a l ih=>simp only [List.flatMap_cons,List.length_append,ih,cs_len,List.length_cons];omega
theorem fcs_add (ns:List Node) (x:Node):fcs (ns ++ [x])=fcs ns ++ x.cs:=by simp [fcs]
def AccN (b:Nat) (out:AV) (ns:List Node) (S:Sg):Prop:=(ns=[] ∧ out=.slice .full 5 []) ∨ (∃ g,out=.ms g 0 ns.length 5 ∧ S.mu g=some (fcs ns) ∧ b ≤ g ∧ g < S.mn)
def AccR (b:Nat) (out:AV) (ns:List Node) (S:Sg):Prop:=(ns=[] ∧ out=SL 5 []) ∨ (∃ g,out=.ms g 0 ns.length 5 ∧ S.mu g=some (fcs ns) ∧ b ≤ g ∧ g < S.mn)
theorem AccN.mono {b:Nat} {out:AV} {ns:List Node} {S S':Sg} (h:AccN b out ns S) (e:ExtM S S'):AccN b out ns S':=by
 rcases h with h | ⟨g,h1,h2,h3,h4⟩
 ·exact .inl h
 exact .inr ⟨g,h1,(e.mu g h4).trans h2,h3,Nat.lt_of_lt_of_le h4 e.mn⟩
theorem AccR.mono {b:Nat} {out:AV} {ns:List Node} {S S':Sg} (h:AccR b out ns S) (e:ExtM S S'):AccR b out ns S':=by
 rcases h with h | ⟨g,h1,h2,h3,h4⟩
 ·exact .inl h
 exact .inr ⟨g,h1,(e.mu g h4).trans h2,h3,Nat.lt_of_lt_of_le h4 e.mn⟩
theorem AccN.res {b:Nat} {out:AV} {ns:List Node} {S:Sg} (h:AccN b out ns S):AccR b out.er ns S:=by
 rcases h with ⟨h1,rfl⟩ | ⟨g,rfl,h2⟩
 ·exact .inl ⟨h1,rfl⟩
 exact .inr ⟨g,rfl,h2⟩
theorem appm_acc {S0 S:Sg} {out:AV} {ns:List Node} {x:Node} (hA:AccN S0.mn out ns S) (hE:ExtM S0 S) (hlen:ns.length ≤ 2 ^ 30) :
 ∃ out' S',wopOf (.appm 5 72) S [out,.slice .full 5 [.agg x.cs]]=some (out',S') ∧ AccN S0.mn out' (ns ++ [x]) S' ∧ ExtM S0 S':=by
 have hsrc:srcOf 5 S (.slice .full 5 [.agg x.cs])=some (1,x.cs):=by
  simp only [srcOf,if_true,List.length_cons,List.length_nil,flat,List.flatMap_cons,List.flatMap_nil,AV.cells,List.append_nil]
 rcases hA with ⟨rfl,rfl⟩ | ⟨g,rfl,h2,h3,h4⟩
 ·refine ⟨.ms S.mn 0 1 5,{ S with mu:=upd S.mu S.mn (some x.cs),mn:=S.mn + 1 },?_,.inr ⟨S.mn,rfl,?_,hE.mn,Nat.lt_succ_self _⟩,⟨⟨hE.e.nx,hE.e.ob,hE.e.gn,hE.e.gl,hE.e.Q⟩,fun g hg=>?_,Nat.le_succ_of_le hE.mn⟩⟩
  ·simp only [wopOf,appmOf,if_true,hsrc,Obs]
   rfl
  ·show upd S.mu S.mn _ S.mn=_
   rw [upd_same]
   simp [fcs]
  show upd S.mu S.mn _ g=_
  rw [upd_ne _ _ (by have:=hE.mn;omega)]
  exact hE.mu g hg
 refine ⟨.ms S.mn 0 (ns.length + 1) 5,{ S with mu:=upd (upd S.mu g none) S.mn (some (fcs ns ++ x.cs)),mn:=S.mn + 1 },?_,.inr ⟨S.mn,by simp,?_,hE.mn,Nat.lt_succ_self _⟩,⟨⟨hE.e.nx,hE.e.ob,hE.e.gn,hE.e.gl,hE.e.Q⟩,fun g' hg=>?_,Nat.le_succ_of_le hE.mn⟩⟩
 ·simp only [wopOf,appmOf]
  rw [if_pos (by simp),hsrc]
  simp only [Obs,h2]
  rw [if_pos ⟨fcs_len ns,by omega⟩,if_neg (by decide)]
 ·show upd (upd S.mu g none) S.mn _ S.mn=_
  rw [upd_same,fcs_add]
 show upd (upd S.mu g none) S.mn _ g'=_
 rw [upd_ne _ _ (by have:=hE.mn;omega),upd_ne _ _ (by omega)]
 exact hE.mu g' hg
theorem unfl_fcs:∀ (ns:List Node),unfl 5 ns.length (fcs ns)=ns.map Node.enc
 | []=>rfl
 | x :: ns=>by
   have e:fcs (x :: ns)=x.cs ++ fcs ns:=rfl
   show AV.agg ((fcs (x :: ns)).take 5) :: unfl 5 ns.length ((fcs (x :: ns)).drop 5)=_
   rw [e]
   rw [show ((x.cs ++ fcs ns).drop 5)=fcs ns from by rw [List.drop_left' (cs_len x)],unfl_fcs ns]
   rw [List.map_cons,x.enc_eq]
   congr 1
theorem eretz_loc {c:Caller} {E:Nat → Option TV} {L:Nat → Option (List AV)} {n:Nat} {v:Nat → Bool} {D:List (Nat × List AV)} {S S':Sg} {Q:Ex → Fr → Prop} {k d:Nat} {cs ds:List AV} (h1:L d=some cs) (h2:frzDL (frzD k) S cs=some (ds,S'))
 (h:Q .ret ⟨E,upd L d (some ds),n,v,D,S'⟩):EX c (.retz k d) ⟨E,L,n,v,D,S⟩ Q:=eretz (by simp only [retzF,h1,h2];rfl) h
theorem ereg_1 {c:Caller} {l:List AIns} {a:Nat} {k kl:List Nat} {E E1:Nat → Option TV} {L:Nat → Option (List AV)} {n:Nat} {v:Nat → Bool} {D:List (Nat × List AV)} {S:Sg} {Q:Ex → Fr → Prop}
 (h1:dropL a E=E1) (h:HL c l ⟨E1,upd L a none,n,v,D,S⟩ (KQ k kl Q)):EX c (.reg l [a] k kl) ⟨E,L,n,v,D,S⟩ Q:=by
 refine eregf ?_
 rw [← h1] at h
 exact h
theorem frzDL0 (S:Sg):∀ cs:List AV,frzDL (frzD 0) S cs=some (cs,S)
 | []=>rfl
 | c :: cs=>by
   have h:=frzDL0 S cs
   have e:frzD 0 S c=some (c,S):=by simp only [frzD]
   simp only [frzDL,e,Obs,h]
theorem nts_app (l m:List AV):AV.nts (l ++ m)=(AV.nts l && AV.nts m):=by induction l with
 | nil=>rfl
 | cons a l ih=>simp only [List.cons_append,AV.nts,ih,Bool.and_assoc]
theorem fcs_nts (ns:List Node):AV.nts (fcs ns)=true:=by
 unfold fcs
 induction ns with
 | nil=>rfl
 | cons a l ih=>rw [List.flatMap_cons,nts_app,ih];rfl
theorem frz_ms {S:Sg} {g n sz k:Nat} {cs:List AV} (hs:0 < sz) (hg:S.mu g=some cs) (hc:frzDL (frzD k) S cs=some (cs,S)) (hn:AV.nts cs=true) (hl:cs.length=n * sz) :
 frzD (k + 1) S (.ms g 0 n sz)=some (.slice .none sz (unfl sz n cs),{ S with mu:=upd (upd S.mu g (some cs)) g none }):=by
 simp only [frzD,hg,hc,Obs]
 rw [if_pos ⟨trivial,hn⟩]
 simp only [frzOf]
 rw [if_pos ⟨trivial,hs⟩,upd_same]
 simp only [Obs]
 rw [if_pos (by omega),List.drop_zero,← hl,List.take_length]
theorem mu_back {S:Sg} {g:Nat} {x:Option (List AV)} {S0:Sg} {y:Option (List AV)} (hE:ExtM S0 S) (hg:S0.mn ≤ g):ExtM S0 { S with mu:=upd (upd S.mu g y) g x } :=
 ⟨⟨hE.e.nx,hE.e.ob,hE.e.gn,hE.e.gl,hE.e.Q⟩,fun i hi=>by
  show upd (upd S.mu g y) g x i=_
  rw [upd_ne _ _ (by omega),upd_ne _ _ (by omega)]
  exact hE.mu i hi,hE.mn⟩
theorem frz_acc {S0 S:Sg} {out:AV} {ns:List Node} (hA:AccR S0.mn out ns S) (hE:ExtM S0 S):∃ S',frzD 1 S out=some (SL 5 (ns.map Node.enc),S') ∧ ExtM S0 S':=by
 rcases hA with ⟨rfl,rfl⟩ | ⟨g,rfl,h2,h3,h4⟩
 ·exact ⟨S,rfl,hE⟩
 refine ⟨_,?_,mu_back (y:=some (fcs ns)) (x:=none) hE h3⟩
 rw [frz_ms (by decide) h2 (frzDL0 S _) (fcs_nts ns) (fcs_len ns),unfl_fcs]
theorem frz_node {S0 S:Sg} {op nn ty:Int} {out:AV} {ns:List Node} {bs:List AV} (hA:AccR S0.mn out ns S) (hE:ExtM S0 S) :
 ∃ S',frzDL (frzD 1) S [I op,I nn,I ty,out,SL 7 bs]=some ([I op,I nn,I ty,SL 5 (ns.map Node.enc),SL 7 bs],S') ∧ ExtM S0 S':=by
 obtain ⟨S',h1,h2⟩:=frz_acc hA hE
 have e:∀ (S:Sg) (x:Int),frzD 1 S (I x)=some (I x,S):=fun S x=>by simp only [frzD]
 have e2:frzD 1 S' (SL 7 bs)=some (SL 7 bs,S'):=by simp only [frzD]
 refine ⟨S',?_,h2⟩
 simp only [frzDL,e,h1,e2,Obs]
theorem gad_c {S:Sg} (h:DQ S) {op:Int} (h0:0 ≤ op) (h1:op ≤ 14):wopOf (.gad 0 1 (dualsL.map I)) S [I op]=some (.cptr (dualsL.map I) op.toNat,S):=by
 have hk:∀ j c,(dualsL.map I)[j]?=some c → S.Q 0 j=some c:=by
  intro j c hj
  rw [Lgm] at hj
  obtain ⟨x,hx,rfl⟩:=Option.map_eq_some_iff.1 hj
  have h2:=List.all_eq_true.1 h (x,j) (List.mk_mem_zipIdx_iff_getElem?.2 hx)
  simp only [isI] at h2
  split at h2
  ·rename_i m e
   rw [e,of_decide_eq_true h2]
  cases h2
 simp only [wopOf,asN,Obs,gadOf]
 rw [if_pos ⟨h0,by simp [dualsL];omega,hk⟩]
 simp
theorem dual_at {op:Int} (h0:0 ≤ op) (h1:op ≤ 14):(dualsL.map I)[op.toNat]?=some (I (dualOp op)):=by
 have h:op.toNat < dualsL.length:=by simp [dualsL];omega
 rw [Lgm,dualOp,List.getElem?_eq_getElem h]
 rfl
theorem len9 {ds:List Decl} {fs:List CFun} {a:Node} {X A:Int → Bool} (h:vN ds fs a X A=true) (e:a.op=9):a.args.length=2:=by
 obtain ⟨_,_,want,xs,hh,hl⟩:=vN_parts h
 rw [e] at hh
 simp [headOf] at hh
 rw [hl,← hh.2.1];rfl
def NodeC (a:Node):Prop:=∀ s,DQ s → HC p N30_ [.agg a.cs] s (fun r s'=>r=[.agg (dualN a).cs] ∧ ExtM s s')
theorem eachNode_l (l:List Node) (S0:Sg) (H:∀ a ∈ l,NodeC a) (out:AV) (i:Nat) (hi:i ≤ l.length) (hs:l.length ≤ 2 ^ 30) {n:Nat} {v:Nat → Bool} {D:List (Nat × List AV)} {S:Sg} {Q:Ex → Fr → Prop}
 (hD0:DQ S0) (hD:DQ S) (hE0:ExtM S0 S) (hA:AccN S0.mn out ((l.take i).map dualN) S) (hX:∀ j out' S',AccN S0.mn out' (l.map dualN) S' → ExtM S0 S' → Q (.exit 0) ⟨upd (upd (upd (upd (upd (upd ((fun _=>none)) 11 (some (.val (B false)))) 10 (some (.val (I j)))) 9 (some (.val (I (l.map Node.enc).length)))) 8 (some (.val (SL 5 (l.map Node.enc))))) 5 (some (.val out'))) 1 (some (.val (.fn N30_ [] []))),(fun _=>none),n,v,D,S'⟩):EX (callL p) (.loop F66_l1) ⟨upd (upd (upd (upd (upd ((fun _=>none)) 10 (some (.val (I i)))) 9 (some (.val (I (l.map Node.enc).length)))) 8 (some (.val (SL 5 (l.map Node.enc))))) 5 (some (.val out))) 1 (some (.val (.fn N30_ [] []))),(fun _=>none),n,v,D,S⟩ Q:=by
 refine eloop (er (qp rfl (qb ?_)))
 rintro (_ | _) h1
 ·refine qn (kq6 rfl rfl rfl rfl rfl rfl) kn (eseq (ecF rfl (eexit (sqx ?_))))
  have he:i=l.length:=by simp at h1;omega
  subst he
  rw [List.take_length] at hA
  exact hX _ _ _ hA hE0
 refine qn (kq6 rfl rfl rfl rfl rfl rfl) kn (eseq (ecT rfl (eskip (sqn (eseq (eblock (er ?_)))))))
 have hlt:i < l.length:=by simpa using h1
 obtain ⟨a,ha⟩:=get_of_lt hlt
 have hd:=drop_cons ha
 refine hia (y:=.agg a.cs) rfl rfl (by omega) (by simp [ha,Node.enc_eq]) rfl (hlda rfl rfl (lc rfl (lc rfl (lc rfl (lc rfl (lc rfl (ln rfl)))))) (hal (dc (dc (dc (dc (dc (dc (dc (dc dn rfl) rfl) rfl) rfl) rfl) rfl) rfl) rfl) (hstl rfl rfl rfl rfl (Nlb rfl) (lc rfl (lc rfl (lc rfl (lc rfl (lc rfl (ln rfl)))))) (qk (kc rfl (kc rfl (kc rfl (kc rfl (kc rfl (kc rfl kn)))))) (kc rfl kn) (sqn (ereg (qp rfl (qp rfl (hlda rfl rfl (lc rfl (lc rfl (lc rfl (lc rfl (lc rfl (ln rfl)))))) (hcall rfl rfl rfl (H a (Lmg ha) _ hD) ?_))))))))))
 rintro _ S1 ⟨rfl,hE⟩
 refine hbsl rfl rfl (lq1 rfl rfl) ?_
 obtain ⟨out2,S2,w1,w2,w3⟩:=appm_acc (x:=dualN a) (hA.mono hE) (hE0.trans hE) (by simp;omega)
 refine hwop rfl w1 (qp rfl (qk (kq5 rfl rfl rfl rfl rfl) kn (bqn (sqn (ereg (hadd rfl rfl (i64w (by omega)) (qp rfl (qk (kq5 rfl rfl rfl rfl rfl) kn ?_))))))))
 exact eachNode_l l S0 H _ (i + 1) (by omega) hs hD0 (DQ.ext hD0 w3) w3 (by rw [← take_map (g:=dualN) ha];exact w2) hX
termination_by l.length - i
decreasing_by all_goals omega
theorem eachNode_c (l:List Node) (H:∀ a ∈ l,NodeC a) (hs:l.length ≤ 2 ^ 30) (s:Sg) (hD:DQ s):HC p N66_ [SL 5 (l.map Node.enc),.fn N30_ [] []] s (fun r s'=>∃ out,r=[out] ∧ AccR s.mn out (l.map dualN) s' ∧ ExtM s s'):=by
 refine hcf rfl f66_ rfl ?_
 simp only [chainOf]
 refine er (qp rfl (qn (kq2 rfl rfl) kn (er (qp rfl (qn (kq3 rfl rfl rfl) kn (eseq (er (pq3 rfl rfl rfl (qn (kq5 rfl rfl rfl rfl rfl) kn (eblock (eachNode_l l _ H _ 0 (by omega) hs hD hD (ExtM.refl _) (.inl ⟨rfl,rfl⟩) ?_)))))))))))
 intro j out' S' hA hE
 refine bqx (sqn (er (pq2 rfl rfl (qn (kq1 rfl) kn (eret (fqr rfl ?_))))))
 exact ⟨_,rfl,hA.res,hE⟩
end Go.Sim.Kd
namespace Go.Sim.Kd
open Go Go.Sim
theorem Reverse2_c (s:Sg) (g:Nat) (x y:Node) (hg:s.mu g=some (x.cs ++ y.cs)):HC p N67_ [.ms g 0 2 5] s (fun r s'=>r=[] ∧ s'={ s with mu:=upd (upd s.mu g (some (y.cs ++ y.cs))) g (some (y.cs ++ x.cs)) }):=by
 refine hcf rfl f67_ rfl ?_
 simp only [chainOf]
 refine er (pq2 rfl rfl (hsub rfl rfl (i64w (by omega)) (pq2 rfl rfl (qn (kq3 rfl rfl rfl) kn (eblock (eloop (eseq (er (pq3 rfl rfl rfl (qb ?_))))))))))
 rintro (_ | _) h1
 ·exact absurd h1 (by decide)
 refine qk (kc rfl (kc rfl (kc rfl (kc rfl kn)))) kn (sqn (ecT rfl (eskip (sqn (eseq (eblock (ereg (qp rfl (qp rfl (qp rfl (qp rfl (qp rfl (qp rfl (hiam rfl rfl (by decide) (by decide) (hldm rfl hg (y:=.agg y.cs) rfl (qp rfl (qp rfl (hiam rfl rfl (by decide) (by decide) (hldm rfl hg (y:=.agg x.cs) rfl (hiam rfl rfl (by decide) (by decide) (hstm rfl rfl hg rfl (Nlb rfl) (by simp) (cs':=y.cs ++ y.cs) rfl (hiam rfl rfl (by decide) (by decide) (hstm rfl rfl (upd_same _ _ _) rfl (Nlb rfl) (by simp) (cs':=y.cs ++ x.cs) rfl ?_)))))))))))))))))))))))
 refine qk (kq3 rfl rfl rfl) kn (bqn (sqn (ereg (qp rfl (hadd rfl rfl (i64w (by omega)) (qp rfl (hsub rfl rfl (i64w (by omega)) (pq2 rfl rfl (qn (kq3 rfl rfl rfl) kn (eloop (eseq (er (pq3 rfl rfl rfl (qb ?_))))))))))))))
 rintro (_ | _) h2
 ·refine qn (kq4 rfl rfl rfl rfl) kn (ecF rfl (eexit (sqx (sqx (bqx (fqn rfl ?_))))))
  exact ⟨rfl,rfl⟩
 exact absurd h2 (by decide)
end Go.Sim.Kd
namespace Go.Sim.Kd
open Go Go.Sim
theorem clone_c (s:Sg) (l:List Int) (h:l.length ≤ 2 ^ 40):HC p N29_ [ints l] s (fun r s'=>(∃ o,r=[.slice o 1 (l.map I)]) ∧ s'=s):=by
 have e:p.ov N29_=some (cloneOv 1 8):=rfl
 cases l with
 | nil =>
   refine ⟨_,s,?_,⟨.full,rfl⟩,rfl⟩
   rw [callL_eq,e]
   rfl
 | cons x l =>
   refine ⟨_,s,?_,⟨.none,rfl⟩,rfl⟩
   rw [callL_eq,e]
   simp only [List.map_cons,cloneOv]
   exact if_pos ⟨rfl,by simp at h ⊢;omega⟩
theorem AccR.cells {b:Nat} {out:AV} {ns:List Node} {S:Sg} (h:AccR b out ns S):out.cells=[out] ∧ out.erT=out ∧ (∀ t sz xs,out ≠ .slice (.tip t) sz xs) ∧ out.er=out:=by
 rcases h with ⟨_,rfl⟩ | ⟨g,rfl,_⟩
 ·exact ⟨rfl,rfl,(fun _ _ _ h=>nomatch h),rfl⟩
 exact ⟨rfl,rfl,(fun _ _ _ h=>nomatch h),rfl⟩
theorem AccR.two {b:Nat} {out:AV} {ns:List Node} {S:Sg} (h:AccR b out ns S) (hl:ns.length=2):∃ g x y,ns=[x,y] ∧ out=.ms g 0 2 5 ∧ S.mu g=some (x.cs ++ y.cs) ∧ b ≤ g ∧ g < S.mn:=by
 match ns,hl with
 | [x,y],_ =>
   rcases h with ⟨h,_⟩ | ⟨g,rfl,h1,h2⟩
   ·cases h
   exact ⟨g,x,y,rfl,rfl,by rw [h1];simp [fcs],h2⟩
theorem AccR.new {b:Nat} {out:AV} {ns:List Node} {S:Sg} {o:AObj} (h:AccR b out ns S):AccR b out ns (S.new o):=h
theorem AccR.set {b i:Nat} {out:AV} {ns:List Node} {S:Sg} {o:AObj} (h:AccR b out ns S):AccR b out ns (S.set i o):=h
theorem ExtM.set {s s':Sg} {i:Nat} {o:AObj} (h:ExtM s s') (hi:s.nx ≤ i):ExtM s (s'.set i o):=⟨h.e.set hi,h.mu,h.mn⟩
theorem ExtM.mus {s s':Sg} {g:Nat} {x:Option (List AV)} (h:ExtM s s') (hg:s.mn ≤ g):ExtM s { s' with mu:=upd s'.mu g x } :=
 ⟨⟨h.e.nx,h.e.ob,h.e.gn,h.e.gl,h.e.Q⟩,fun i hi=>(upd_ne _ _ (by omega)).trans (h.mu i hi),h.mn⟩
def BrC (b:Br):Prop:=∀ s,DQ s → HC p N69_ [.agg (ints b.vars :: bools b.co :: b.body.cs)] s (fun r s'=>r=[.agg (ints (dualB b).vars :: bools (dualB b).co :: (dualB b).body.cs)] ∧ ExtM s s')
theorem dualN_op (a:Node):(dualN a).op=dualOp a.op:=by rw [dualN_eq];rfl
def dArgs (a:Node):List Node:=if a.op=9 then (a.args.map dualN).reverse else a.args.map dualN
theorem dualN_cs (a:Node):(dualN a).cs=[I (dualOp a.op),I a.n,I a.ty,SL 5 ((dArgs a).map Node.enc),SL 7 ((a.brs.map dualB).map Br.enc)]:=by
 rw [dualN_eq]
 rfl
theorem not_c (a:Bool) (s:Sg) (hD:DQ s):HC p N71_ [B a] s (fun r s'=>r=[B (!a)] ∧ ExtM s s'):=by
 refine hcf rfl f71_ rfl ?_
 simp only [chainOf]
 refine er (qp rfl (qn (kq1 rfl) kn (er (pq3 rfl rfl rfl (qn (kq1 rfl) kn (eret (fqr rfl ?_)))))))
 exact ⟨rfl,ExtM.refl _⟩
theorem dbranch_c (b:Br) (hv:b.vars.length ≤ 2 ^ 30) (hc:b.co.length ≤ 2 ^ 30) (H:NodeC b.body) (s:Sg) (hD:DQ s):HC p N69_ [.agg (ints b.vars :: bools b.co :: b.body.cs)] s (fun r s'=>r=[.agg (ints (dualB b).vars :: bools (dualB b).co :: (dualB b).body.cs)] ∧ ExtM s s'):=by
 refine hcf rfl f69_ rfl ?_
 simp only [chainOf]
 refine er (hbox (dc dn rfl) rfl (lq7 rfl rfl rfl rfl rfl rfl rfl rfl) (hal (dq2 rfl rfl) (qn (kq2 rfl rfl) (kq2 rfl rfl) (er (pq2 rfl rfl (hcall rfl rfl rfl (clone_c _ b.vars (by omega)) ?_))))))
 rintro _ S0 ⟨⟨o,rfl⟩,hS0⟩
 obtain rfl:=hS0.symm
 refine pq2 rfl rfl (hcall rfl rfl rfl (eachbool_c b.co not N71_ (fun a _ s hs=>not_c a s hs) (by omega) _ hD) ?_)
 rintro _ S1 ⟨rfl,hE1⟩
 refine qp rfl (hlda rfl rfl (lq5 rfl rfl rfl rfl rfl rfl) (hcall rfl rfl rfl (H _ (hD.ext hE1)) ?_))
 rintro _ S2 ⟨rfl,hE2⟩
 refine hbuild rfl rfl (lq7 rfl rfl rfl rfl rfl rfl rfl rfl) (hstl rfl rfl rfl rfl (Nlb rfl) (lq7 rfl rfl rfl rfl rfl rfl rfl rfl) (qn (kq1 rfl) (kq1 rfl) (eret (fqr rfl ?_))))
 rw [dualB_eq]
 refine ⟨?_,hE1.trans hE2⟩
 simp only [Br.vars,Br.co,bools]
 rw [List.map_map]
 rfl
theorem fill_out {out:AV} {a b c:Int} (h:out.cells=[out]):fillA [.lit (.int .i64 0),.lit (.int .i64 0),.lit (.int .i64 0),.slice .full 5 [],.slice .full 7 []] [(0,1,I a),(1,1,I b),(2,1,I c),(3,1,out)]=some [I a,I b,I c,out,.slice .full 7 []]:=by
 have hI:∀ x,(I x).cells=[I x]:=fun _=>rfl
 simp [fillA,h,hI]
theorem node_c0 (a:Node) (ho0:0 ≤ a.op) (ho1:a.op ≤ 14) (h9:a.op=9 → a.args.length=2) (ha:a.args.length ≤ 2 ^ 30) (hb:a.brs.length ≤ 2 ^ 30) (H1:∀ b ∈ a.args,NodeC b) (H2:∀ b ∈ a.brs,BrC b) (s:Sg) (hD:DQ s):HC p N30_ [.agg a.cs] s (fun r s'=>r=[.agg (dualN a).cs] ∧ ExtM s s'):=by
 refine hcf rfl f30_ rfl ?_
 simp only [chainOf]
 refine er (hbox (dc dn rfl) rfl (lq5 rfl rfl rfl rfl rfl rfl) (hal (dq2 rfl rfl) (qn (kq2 rfl rfl) (kq2 rfl rfl) (eseq (ereg_1 (dq2 rfl rfl) (pq2 rfl rfl (hwop rfl (gad_c hD ho0 ho1) (hldc rfl (dual_at ho0 ho1) (pq6 rfl rfl rfl rfl rfl rfl (hcallq rfl rfl rfl (eachNode_c a.args H1 ha _ hD) (by rintro _ _ ⟨_,_,_,hE⟩;exact hE.e.Q) ?_))))))))))
 rintro _ S1 ⟨out,rfl,hA,hE1⟩
 obtain ⟨hc1,hc2,hc3,hc4⟩:=hA.cells
 refine hbuild rfl (fill_out hc1) rfl (hal (dq14 rfl rfl rfl rfl rfl rfl rfl rfl rfl rfl rfl rfl rfl rfl) (hstl rfl rfl rfl rfl (Nlb rfl) (lq5 rfl rfl rfl rfl rfl rfl) (qn (kq3 rfl rfl rfl) (kq3 rfl rfl rfl) (eseq (er (pq3 rfl rfl rfl (qb ?_)))))))
 rintro (_ | _) h1
 ·have hA5:AccR s.mn out (dArgs a) S1:=by
   rw [dArgs,if_neg (by simpa using h1)]
   exact hA
  have hE5:=hE1
  refine qk (kc rfl (kc rfl (kc rfl (kc rfl kn)))) (kc rfl (kc rfl (kc rfl kn))) (sqn (ecF rfl (eskip (sqn (eseq (ereg (qp rfl (qp rfl (hcall rfl rfl rfl (eachBranch_c a.brs dualB N69_ (fun b hb s hs=>by have:=H2 b hb s hs;exact this) hb _ (hD.ext hE5)) ?_)))))))))
  rintro _ S6 ⟨rfl,hE6⟩
  refine qp rfl (hstl rfl rfl rfl rfl (Nlb rfl) (lq5 rfl rfl rfl rfl rfl rfl) (qn (kq2 rfl rfl) (kq2 rfl rfl) (er (hlda rfl rfl (lq5 rfl rfl rfl rfl rfl rfl) (hstl rfl rfl rfl rfl (Nlb rfl) (lq5 rfl rfl rfl rfl rfl rfl) (qn (kq1 rfl) (kq1 rfl) ?_))))))
  obtain ⟨S9,w1,w2⟩:=frz_node (S0:=s) (op:=dualOp a.op) (nn:=a.n) (ty:=a.ty) (bs:=(a.brs.map dualB).map Br.enc) (hA5.mono hE6) (hE5.trans hE6)
  rw [List.map_map] at w1
  refine eretz_loc rfl w1 (fqr rfl ?_)
  rw [dualN_cs,List.map_map]
  exact ⟨rfl,w2⟩
 refine qn (kq4 rfl rfl rfl rfl) (kq3 rfl rfl rfl) (ecT rfl (ereg (qp rfl ?_)))
 obtain ⟨g,x,y,hns,rfl,hg,hb1,hb2⟩:=hA.two (by simpa using h9 (by simpa using h1))
 refine qp rfl (hcall rfl rfl rfl (Reverse2_c _ g x y hg) ?_)
 rintro _ S2 ⟨rfl,hS2⟩
 have hA5:AccR s.mn (.ms g 0 2 5) (dArgs a) S2:=by
  rw [hS2,dArgs,if_pos (by simpa using h1),hns]
  exact .inr ⟨g,rfl,by show upd _ g _ g=_;rw [upd_same];simp [fcs],hb1,hb2⟩
 have hE5:ExtM s S2:=by
  rw [hS2]
  exact mu_back hE1 hb1
 refine qk (kc rfl (kc rfl (kc rfl kn))) (kc rfl (kc rfl (kc rfl kn))) (sqn (eseq (ereg (qp rfl (qp rfl (hcall rfl rfl rfl (eachBranch_c a.brs dualB N69_ (fun b hb s hs=>by have:=H2 b hb s hs;exact this) hb _ (hD.ext hE5)) ?_))))))
 rintro _ S6 ⟨rfl,hE6⟩
 refine qp rfl (hstl rfl rfl rfl rfl (Nlb rfl) (lq5 rfl rfl rfl rfl rfl rfl) (qn (kq2 rfl rfl) (kq2 rfl rfl) (er (hlda rfl rfl (lq5 rfl rfl rfl rfl rfl rfl) (hstl rfl rfl rfl rfl (Nlb rfl) (lq5 rfl rfl rfl rfl rfl rfl) (qn (kq1 rfl) (kq1 rfl) ?_))))))
 obtain ⟨S9,w1,w2⟩:=frz_node (S0:=s) (op:=dualOp a.op) (nn:=a.n) (ty:=a.ty) (bs:=(a.brs.map dualB).map Br.enc) (hA5.mono hE6) (hE5.trans hE6)
 rw [List.map_map] at w1
 refine eretz_loc rfl w1 (fqr rfl ?_)
 rw [dualN_cs,List.map_map]
 exact ⟨rfl,w2⟩
end Go.Sim.Kd
namespace Go.Sim.Kd
open Go Go.Sim
theorem head_op {ds:List Decl} {fs:List CFun} {op n ty:Int} {h:List Int × List Xtor} (e:headOf ds fs op n ty=some h):0 ≤ op ∧ op ≤ 14:=by
 by_cases hc:0 ≤ op ∧ op ≤ 14
 ·exact hc
 exfalso
 unfold headOf at e
 rw [if_neg (by omega),if_neg (by omega),if_neg (by omega),if_neg (by omega),if_neg (by omega),if_neg (by omega),if_neg (by omega),if_neg (by omega),if_neg (by omega),if_neg (by omega),if_neg (by omega)] at e
 cases e
theorem node_c (ds:List Decl) (fs:List CFun) (a:Node):∀ {X A:Int → Bool},vN ds fs a X A=true → a.sz ≤ 2 ^ 30 → NodeC a:=by
 induction a using Node.ind with
 | h a ih1 ih2 =>
   intro X A hv hz s hD
   obtain ⟨p1,p2,want,xs,hh,_⟩:=vN_parts hv
   obtain ⟨o0,o1⟩:=head_op hh
   refine node_c0 a o0 o1 (len9 hv) (by have:=a.sz_args;omega) (by have:=a.sz_brs;omega) (fun b hb=>?_) (fun b hb=>?_) s hD
   ·obtain ⟨_,_,h⟩:=p1 b hb
    exact ih1 b hb h (by have:=Node.sz_arg hb;omega)
   obtain ⟨_,_,h⟩:=p2 b hb
   have h1:=Node.sz_br hb
   have h2:=b.sz_body
   have h3:=b.sz_vars
   have h4:=b.sz_co
   intro s hD
   exact dbranch_c b (by omega) (by omega) (ih2 b hb h (by omega)) s hD
theorem DQ.e {s s':Sg} (h:DQ s) (e:Ext s s'):DQ s':=by
 unfold DQ dualsIn at *
 rw [e.Q]
 exact h
theorem arg_c (a:Arg) (s:Sg) (hD:DQ s):HC p N26_ [.agg [I a.ty,B a.co]] s (fun r s'=>r=[.agg [I (dArg a).ty,B (dArg a).co]] ∧ ExtM s s'):=by
 refine hcf rfl f26_ rfl ?_
 simp only [chainOf]
 refine er (hbox (dc dn rfl) rfl (lq2 rfl rfl rfl) (hal (dq2 rfl rfl) (qn (kq2 rfl rfl) (kq2 rfl rfl) (er (pq5 rfl rfl rfl rfl rfl (hbuild rfl rfl (lq2 rfl rfl rfl) (hstl rfl rfl rfl rfl (Nlb rfl) (lq2 rfl rfl rfl) (qn (kq1 rfl) (kq1 rfl) (eret (fqr rfl ?_))))))))))
 exact ⟨rfl,ExtM.refl _⟩
theorem dxtor_c (x:Xtor) (hx:x.args.length ≤ 2 ^ 30) (s:Sg) (hD:DQ s):HC p N24_ [.agg [Str x.name,encArgs x.args]] s (fun r s'=>r=[.agg [Str (dXtor x).name,encArgs (dXtor x).args]] ∧ ExtM s s'):=by
 refine hcf rfl f24_ rfl ?_
 simp only [chainOf]
 refine er (hbox (dc dn rfl) rfl (lq2 rfl rfl rfl) (hal (dq2 rfl rfl) (qn (kq2 rfl rfl) (kq2 rfl rfl) (er (pq4 rfl rfl rfl rfl (hcall rfl rfl rfl (eachArg_c x.args dArg N26_ (fun a _ s hs=>arg_c a s hs) hx _ hD) ?_))))))
 rintro _ S1 ⟨rfl,hE⟩
 refine hbuild rfl rfl (lq2 rfl rfl rfl) (hstl rfl rfl rfl rfl (Nlb rfl) (lq2 rfl rfl rfl) (qn (kq1 rfl) (kq1 rfl) (eret (fqr rfl ?_))))
 refine ⟨?_,hE⟩
 simp only [dXtor,encArgs]
 rw [List.map_map]
 rfl
theorem ddecl_c (d:Decl) (hd:d.xtors.length ≤ 2 ^ 30) (hx:∀ x ∈ d.xtors,x.args.length ≤ 2 ^ 30) (s:Sg) (hD:DQ s):HC p N22_ [.agg [Str d.name,B d.codata,SL 2 (d.xtors.map Xtor.enc)]] s (fun r s'=>r=[.agg [Str (dDecl d).name,B (dDecl d).codata,SL 2 ((dDecl d).xtors.map Xtor.enc)]] ∧ ExtM s s'):=by
 refine hcf rfl f22_ rfl ?_
 simp only [chainOf]
 refine er (hbox (dc dn rfl) rfl (lq3 rfl rfl rfl rfl) (hal (dq2 rfl rfl) (qn (kq2 rfl rfl) (kq2 rfl rfl) (er (pq6 rfl rfl rfl rfl rfl rfl (qp rfl (hcall rfl rfl rfl (eachXtor_c d.xtors dXtor N24_ (fun x hm s hs=>dxtor_c x (hx x hm) s hs) hd _ hD) ?_)))))))
 rintro _ S1 ⟨rfl,hE⟩
 refine hbuild rfl rfl (lq3 rfl rfl rfl rfl) (hstl rfl rfl rfl rfl (Nlb rfl) (lq3 rfl rfl rfl rfl) (qn (kq1 rfl) (kq1 rfl) (eret (fqr rfl ?_))))
 refine ⟨?_,hE⟩
 simp only [dDecl]
 rw [List.map_map]
 rfl
theorem dfun_c (g:CFun) (hp:g.params.length ≤ 2 ^ 30) (hv:g.vars.length ≤ 2 ^ 40) (H:NodeC g.body) (s:Sg) (hD:DQ s):HC p N28_ [.agg (Str g.name :: encArgs g.params :: ints g.vars :: g.body.cs)] s (fun r s'=>r=[.agg (Str (dFun g).name :: encArgs (dFun g).params :: ints (dFun g).vars :: (dFun g).body.cs)] ∧ ExtM s s'):=by
 refine hcf rfl f28_ rfl ?_
 simp only [chainOf]
 refine er (hbox (dc dn rfl) rfl (lq8 rfl rfl rfl rfl rfl rfl rfl rfl rfl) (hal (dq2 rfl rfl) (qn (kq2 rfl rfl) (kq2 rfl rfl) (er (pq4 rfl rfl rfl rfl (hcall rfl rfl rfl (eachArg_c g.params dArg N26_ (fun a _ s hs=>arg_c a s hs) hp _ hD) ?_))))))
 rintro _ S1 ⟨rfl,hE1⟩
 refine pq2 rfl rfl (hcall rfl rfl rfl (clone_c _ g.vars hv) ?_)
 rintro _ S0 ⟨⟨o,rfl⟩,hS0⟩
 obtain rfl:=hS0.symm
 refine qp rfl (hlda rfl rfl (lq5 rfl rfl rfl rfl rfl rfl) (hcall rfl rfl rfl (H _ (hD.ext hE1)) ?_))
 rintro _ S2 ⟨rfl,hE2⟩
 refine hbuild rfl rfl (lq8 rfl rfl rfl rfl rfl rfl rfl rfl rfl) (hstl rfl rfl rfl rfl (Nlb rfl) (lq8 rfl rfl rfl rfl rfl rfl rfl rfl rfl) (qn (kq1 rfl) (kq1 rfl) (eret (fqr rfl ?_))))
 refine ⟨?_,hE1.trans hE2⟩
 simp only [dFun,encArgs]
 rw [List.map_map]
 rfl
theorem Dual_c (s:Sg) (hQ:QOK s) (hD:DQ s) (c:Core) (hc:CoreSz c) (hdl:c.decls.length ≤ 2 ^ 30) (hxl:∀ d ∈ c.decls,d.xtors.length ≤ 2 ^ 30) (hxa:∀ d ∈ c.decls,∀ x ∈ d.xtors,x.args.length ≤ 2 ^ 30) (hfl:c.funs.length ≤ 2 ^ 30) (hfp:∀ g ∈ c.funs,g.params.length ≤ 2 ^ 30) (hfv:∀ g ∈ c.funs,g.vars.length ≤ 2 ^ 40) (hbz:∀ g ∈ c.funs,g.body.sz ≤ 2 ^ 30):HC p N9_ [.agg (Core.cs c)] s (fun r s'=>r=(if coreOk c=true then if isPureC c=true then [.agg (Core.cs (dualC c)),I 0] else [.agg (Core.cs ⟨[],[]⟩),I 110] else [.agg (Core.cs ⟨[],[]⟩),I 60]) ∧ Ext s s'):=by
 refine hcf rfl f9_ rfl ?_
 simp only [chainOf]
 refine er (hbox (dc dn rfl) rfl (lq2 rfl rfl rfl) (hal (dq2 rfl rfl) (qp rfl (qn (kq2 rfl rfl) (kq2 rfl rfl) (eseq (er (hlda rfl rfl (lq2 rfl rfl rfl) (hcall rfl rfl rfl (cValid_c _ hQ c hc hfv (fun g hg=>Nat.le_trans (hbz g hg) (by decide))) ?_))))))))
 rintro _ S1 ⟨rfl,hE⟩
 refine qb ?_
 rintro (_ | _) h1
 ·refine qp rfl (qn (kq3 rfl rfl rfl) (kq2 rfl rfl) (ecT rfl (er (hbuild rfl rfl (lq2 rfl rfl rfl) (hstl rfl rfl rfl rfl (Nlb rfl) (lq2 rfl rfl rfl) (qp rfl (qn (kq2 rfl rfl) (kq1 rfl) (eret (sqr (fqr rfl ?_))))))))))
  first
  | (rw [if_pos (by simp_all),if_pos (by simp_all)];refine ⟨?_,hE.trans (hE2.e.trans hE3.e)⟩;simp only [Core.cs,dualC];rw [List.map_map,List.map_map];rfl)
  | (rw [if_pos (by simp_all),if_neg (by simp_all)];exact ⟨rfl,hE⟩)
  | (rw [if_neg (by simp_all)];exact ⟨rfl,hE⟩)
 refine qp rfl (qn (kq3 rfl rfl rfl) (kq2 rfl rfl) (ecF rfl (eskip (sqn (eseq (er (hlda rfl rfl (lq2 rfl rfl rfl) (hcall rfl rfl rfl (isPure_c _ c hc (fun d hd=>Nat.le_trans (hxl d hd) (by decide)) (by omega) (by simp_all) (fun g hg=>Nat.le_trans (hbz g hg) (by decide))) ?_))))))))
 rintro _ _ ⟨rfl,rfl⟩
 refine qb ?_
 rintro (_ | _) h2
 ·refine qp rfl (qn (kq3 rfl rfl rfl) (kq2 rfl rfl) (ecT rfl (er (hbuild rfl rfl (lq2 rfl rfl rfl) (hstl rfl rfl rfl rfl (Nlb rfl) (lq2 rfl rfl rfl) (qp rfl (qn (kq2 rfl rfl) (kq1 rfl) (eret (sqr (fqr rfl ?_))))))))))
  first
  | (rw [if_pos (by simp_all),if_pos (by simp_all)];refine ⟨?_,hE.trans (hE2.e.trans hE3.e)⟩;simp only [Core.cs,dualC];rw [List.map_map,List.map_map];rfl)
  | (rw [if_pos (by simp_all),if_neg (by simp_all)];exact ⟨rfl,hE⟩)
  | (rw [if_neg (by simp_all)];exact ⟨rfl,hE⟩)
 refine qp rfl (qn (kq3 rfl rfl rfl) (kq2 rfl rfl) (ecF rfl (eskip (sqn (eseq (ereg_1 (dq3 rfl rfl rfl) (pq2 rfl rfl (hcall rfl rfl rfl (eachDecl_c c.decls dDecl N22_ (fun d hm s hs=>ddecl_c d (hxl d hm) (hxa d hm) s hs) hdl _ (hD.e hE)) ?_))))))))
 rintro _ S2 ⟨rfl,hE2⟩
 refine pq2 rfl rfl (hcall rfl rfl rfl (eachCoreFun_c c.funs dFun N28_ (fun g hm s hs=>dfun_c g (hfp g hm) (hfv g hm) (node_c _ _ _ (core_body (by simp_all) g hm).2.2.2 (hbz g hm)) s hs) hfl _ ((hD.e hE).ext hE2)) ?_)
 rintro _ S3 ⟨rfl,hE3⟩
 refine hbuild rfl rfl (lq2 rfl rfl rfl) (hal (dq10 rfl rfl rfl rfl rfl rfl rfl rfl rfl rfl) (hstl rfl rfl rfl rfl (Nlb rfl) (lq2 rfl rfl rfl) (qn (kq2 rfl rfl) (kq2 rfl rfl) (er (hlda rfl rfl (lq2 rfl rfl rfl) (hstl rfl rfl rfl rfl (Nlb rfl) (lq2 rfl rfl rfl) (qp rfl (qn (kq2 rfl rfl) (kq1 rfl) (eret (fqr rfl ?_))))))))))
 first
 | (rw [if_pos (by simp_all),if_pos (by simp_all)];refine ⟨?_,hE.trans (hE2.e.trans hE3.e)⟩;simp only [Core.cs,dualC];rw [List.map_map,List.map_map];rfl)
 | (rw [if_pos (by simp_all),if_neg (by simp_all)];exact ⟨rfl,hE⟩)
 | (rw [if_neg (by simp_all)];exact ⟨rfl,hE⟩)
end Go.Sim.Kd
namespace Go.Sim.Kd
open Go Go.Sim
theorem vNs_iff (ds:List Decl) (fs:List CFun) (X A:Int → Bool):∀ (l:List Node) (ws:List Int),vNs ds fs l ws X A=true ↔ l.length=ws.length ∧ ∀ (i:Nat) b w,l[i]?=some b → ws[i]?=some w → sortOf b.op=w ∧ vN ds fs b X A=true
 | [],[]=>by simp [vNs]
 | [],_ :: _=>by simp [vNs]
 | _ :: _,[]=>by simp [vNs]
 | a :: l,w :: ws=>by
   simp only [vNs,Bae,Dte,vNs_iff ds fs X A l ws,List.length_cons]
   constructor
   ·rintro ⟨⟨h1,h2⟩,h3,h4⟩
    refine ⟨by omega,fun i b w hb hw=>?_⟩
    cases i with
    | zero=>cases hb;cases hw;exact ⟨h1,h2⟩
    | succ i=>exact h4 i b w (by simpa using hb) (by simpa using hw)
   rintro ⟨h1,h2⟩
   exact ⟨h2 0 a w rfl rfl,by omega,fun i b w hb hw=>h2 (i + 1) b w (by simpa using hb) (by simpa using hw)⟩
def brP (ds:List Decl) (fs:List CFun) (b:Br) (x:Xtor):Prop:=b.vars.length=x.args.length ∧ b.co=x.args.map (fun a=>a.co) ∧ distinctOk [] (b.vars.zip b.co)=true ∧ sortOf b.body.op=2
theorem vBs_iff (ds:List Decl) (fs:List CFun) (X A:Int → Bool):∀ (l:List Br) (xs:List Xtor),vBs ds fs l xs X A=true ↔ l.length=xs.length ∧ ∀ (i:Nat) b x,l[i]?=some b → xs[i]?=some x → brP ds fs b x ∧ vN ds fs b.body (addsV false X b.vars b.co) (addsV true A b.vars b.co)=true
 | [],[]=>by simp [vBs]
 | [],_ :: _=>by simp [vBs]
 | _ :: _,[]=>by simp [vBs]
 | a :: l,w :: ws=>by
   simp only [vBs,Bae,vBs_iff ds fs X A l ws,List.length_cons,vB_eq,Dte]
   constructor
   ·rintro ⟨⟨⟨⟨⟨h1,h2⟩,h5⟩,h6⟩,h7⟩,h3,h4⟩
    refine ⟨by omega,fun i b w hb hw=>?_⟩
    cases i with
    | zero=>cases hb;cases hw;exact ⟨⟨h1,h2,h5,h6⟩,h7⟩
    | succ i=>exact h4 i b w (by simpa using hb) (by simpa using hw)
   rintro ⟨h1,h2⟩
   obtain ⟨⟨g1,g2,g3,g4⟩,g5⟩:=h2 0 a w rfl rfl
   exact ⟨⟨⟨⟨⟨g1,g2⟩,g3⟩,g4⟩,g5⟩,by omega,fun i b w hb hw=>h2 (i + 1) b w (by simpa using hb) (by simpa using hw)⟩
inductive PV (ds:List Decl) (fs:List CFun):Node → (Int → Bool) → (Int → Bool) → Prop
 | var {n X A}:numOk n=true → X n=true → PV ds fs (.mk 0 n 0 [] []) X A
 | cov {n X A}:numOk n=true → A n=true → PV ds fs (.mk 5 n 0 [] []) X A
 | xtor {n ty args X A} (co:Bool) (d:Decl) (x:Xtor):declAt ds ty=some d → d.codata=co → 0 ≤ n → d.xtors[n.toNat]?=some x → args.length=x.args.length →
    (∀ (i:Nat) (b:Node) (a:Arg),args[i]?=some b → x.args[i]?=some a → sortOf b.op=sideOf a.co) →
    (∀ (i:Nat) (b:Node) (a:Arg),args[i]?=some b → x.args[i]?=some a → PV ds fs b X A) → PV ds fs (.mk (if co then 6 else 2) n ty args []) X A
 | mu {n ty b X A} (co:Bool):ty ≠ 0 → typedOk ds ty=true → numOk n=true → sortOf b.op=2 → PV ds fs b (if co then addV X n else X) (if co then A else addV A n) → PV ds fs (.mk (if co then 7 else 3) n ty [b] []) X A
 | mat {ty brs X A} (co:Bool) (d:Decl):declAt ds ty=some d → d.codata=!co → brs.length=d.xtors.length → (∀ (i:Nat) (b:Br) (x:Xtor),brs[i]?=some b → d.xtors[i]?=some x → brP ds fs b x) →
    (∀ (i:Nat) (b:Br) (x:Xtor),brs[i]?=some b → d.xtors[i]?=some x → PV ds fs b.body (addsV false X b.vars b.co) (addsV true A b.vars b.co)) → PV ds fs (.mk (if co then 8 else 4) 0 ty [] brs) X A
 | cut {ty b c X A}:ty ≠ 0 → typedOk ds ty=true → sortOf b.op=0 → sortOf c.op=1 → PV ds fs b X A → PV ds fs c X A → PV ds fs (.mk 9 0 ty [b,c] []) X A
 | emit {m b X A}:sortOf b.op=2 → PV ds fs b X A → PV ds fs (.mk 12 0 0 [.mk 1 m 0 [] [],b] []) X A
 | call {n args X A} (f:CFun):0 ≤ n → fs[n.toNat]?=some f → args.length=f.params.length →
    (∀ (i:Nat) (b:Node) (a:Arg),args[i]?=some b → f.params[i]?=some a → sortOf b.op=sideOf a.co) →
    (∀ (i:Nat) (b:Node) (a:Arg),args[i]?=some b → f.params[i]?=some a → PV ds fs b X A) → PV ds fs (.mk 13 n 0 args []) X A
 | done {m X A}:PV ds fs (.mk 14 0 0 [.mk 1 m 0 [] []] []) X A
theorem get_mem {α β:Type} {l:List α} {m:List β} (h:l.length=m.length) {a:α} (ha:a ∈ l):∃ (i:Nat) (b:β),l[i]?=some a ∧ m[i]?=some b:=by
 obtain ⟨i,hi,e⟩:=List.mem_iff_getElem.1 ha
 exact ⟨i,m[i]'(by omega),by rw [List.getElem?_eq_getElem hi,e],List.getElem?_eq_getElem _⟩
theorem vN_int (ds:List Decl) (fs:List CFun) (m:Int) (X A:Int → Bool):vN ds fs (.mk 1 m 0 [] []) X A=true:=by
 simp [vN,headOf,vNs,vBs]
theorem PV.ok {ds:List Decl} {fs:List CFun} {a:Node} {X A:Int → Bool} (h:PV ds fs a X A):vN ds fs a X A=true ∧ pureN a=true:=by
 induction h with
 | var h1 h2=>refine ⟨?_,?_⟩;simp [vN,headOf,h1,h2,vNs,vBs];simp [pureN,pureNs,pureBs]
 | cov h1 h2=>refine ⟨?_,?_⟩;simp [vN,headOf,h1,h2,vNs,vBs];simp [pureN,pureNs,pureBs]
 | @xtor n ty args X A co d x h1 h2 h3 h4 h5 h6 _ ih =>
   constructor
   ·have e:headOf ds fs (if co then 6 else 2) n ty=some (x.args.map fun a=>sideOf a.co,[]):=by
     cases co <;> simp [headOf,h1,h2,h3,h4]
    rw [vN_eq]
    simp only [Node.op,Node.n,Node.ty,Node.args,Node.brs,e]
    have:vNs ds fs args (x.args.map fun a=>sideOf a.co) X A=true:=by
     rw [vNs_iff]
     refine ⟨by simpa using h5,fun i b w hb hw=>?_⟩
     rw [Lgm] at hw
     obtain ⟨a,ha,rfl⟩:=Option.map_eq_some_iff.1 hw
     exact ⟨h6 i b a hb ha,(ih i b a hb ha).1⟩
    cases co <;> simp [this,vBs]
   rw [pureN_eq]
   have e:(args.any fun b=>!pureN b)=false:=by
    rw [List.any_eq_false]
    intro b hb
    obtain ⟨i,a,h7,h8⟩:=get_mem h5 hb
    simp [(ih i b a h7 h8).2]
   cases co <;> simp [Node.op,Node.args,Node.brs,e] <;> simpa using e
 | @mu n ty b X A co h1 h2 h3 h4 _ ih =>
   constructor
   ·rw [vN_eq]
    cases co <;> simp_all [Node.op,Node.n,Node.ty,Node.args,Node.brs,headOf,vNs,vBs]
   rw [pureN_eq]
   cases co <;> simp_all [Node.op,Node.n,Node.ty,Node.args,Node.brs]
 | @mat ty brs X A co d h1 h2 h3 h4 _ ih =>
   constructor
   ·have e:headOf ds fs (if co then 8 else 4) 0 ty=some ([],d.xtors):=by
     cases co <;> simp [headOf,h1,h2]
    rw [vN_eq]
    simp only [Node.op,Node.n,Node.ty,Node.args,Node.brs,e]
    have:vBs ds fs brs d.xtors X A=true:=by
     rw [vBs_iff]
     exact ⟨h3,fun i b x hb hx=>⟨h4 i b x hb hx,(ih i b x hb hx).1⟩⟩
    cases co <;> simp [this,vNs]
   rw [pureN_eq]
   have e:(brs.any fun b=>!pureN b.body)=false:=by
    rw [List.any_eq_false]
    intro b hb
    obtain ⟨i,a,h7,h8⟩:=get_mem h3 hb
    simp [(ih i b a h7 h8).2]
   cases co <;> simp [Node.op,Node.args,Node.brs,e] <;> simpa using e
 | cut h1 h2 h3 h4 _ _ ih1 ih2 =>
   constructor
   ·rw [vN_eq]
    simp_all [Node.op,Node.n,Node.ty,Node.args,Node.brs,headOf,vNs,vBs]
   rw [pureN_eq]
   simp_all [Node.op,Node.n,Node.ty,Node.args,Node.brs]
 | emit h1 _ ih =>
   constructor
   ·rw [vN_eq]
    simp_all [Node.op,Node.n,Node.ty,Node.args,Node.brs,headOf,vNs,vBs,vN_int]
    first | done | rfl
   rw [pureN_eq]
   simp_all [Node.op,Node.n,Node.ty,Node.args,Node.brs]
 | @call n args X A f h1 h2 h3 h4 _ ih =>
   constructor
   ·have e:headOf ds fs 13 n 0=some (f.params.map fun a=>sideOf a.co,[]):=by
     simp [headOf,h1,h2]
    rw [vN_eq]
    simp only [Node.op,Node.n,Node.ty,Node.args,Node.brs,e]
    have:vNs ds fs args (f.params.map fun a=>sideOf a.co) X A=true:=by
     rw [vNs_iff]
     refine ⟨by simpa using h3,fun i b w hb hw=>?_⟩
     rw [Lgm] at hw
     obtain ⟨a,ha,rfl⟩:=Option.map_eq_some_iff.1 hw
     exact ⟨h4 i b a hb ha,(ih i b a hb ha).1⟩
    simp [this,vBs]
   rw [pureN_eq]
   have e:(args.any fun b=>!pureN b)=false:=by
    rw [List.any_eq_false]
    intro b hb
    obtain ⟨i,a,h7,h8⟩:=get_mem h3 hb
    simp [(ih i b a h7 h8).2]
   simpa [Node.op,Node.args,Node.brs] using e
 | done =>
   constructor
   ·rw [vN_eq]
    simp [Node.op,Node.n,Node.ty,Node.args,Node.brs,headOf,vNs,vBs,vN_int]
    first | done | rfl
   rw [pureN_eq]
   simp_all [Node.op,Node.n,Node.ty,Node.args,Node.brs]
theorem len_two {α:Type} {l:List α} (h:l.length=2):∃ b c,l=[b,c]:=by
 match l,h with
 | [b,c],_=>exact ⟨b,c,rfl⟩
theorem eta_node (a:Node):a=.mk a.op a.n a.ty a.args a.brs:=by cases a;rfl
theorem int_node {ds:List Decl} {fs:List CFun} {a:Node} {X A:Int → Bool} (h:vN ds fs a X A=true) (e:a.op=1):a=.mk 1 a.n 0 [] []:=by
 cases a with
 | mk op n ty args brs =>
   simp only [Node.op] at e
   subst e
   rw [vN_eq] at h
   simp only [Node.op,Node.n,Node.ty,Node.args,Node.brs,headOf] at h
   by_cases ht:ty=0
   ·subst ht
    simp at h
    cases args with
    | nil=>cases brs with
      | nil=>rfl
      | cons b l=>simp [vBs] at h
    | cons b l=>simp [vNs] at h
   simp [ht] at h
theorem PV.of {ds:List Decl} {fs:List CFun} (a:Node):∀ {X A:Int → Bool},vN ds fs a X A=true → pureN a=true → PV ds fs a X A:=by
 induction a using Node.ind with
 | h a ih1 ih2 =>
   intro X A hv hp
   have hv0:=hv
   obtain ⟨_,_,want,xs,hh,hl⟩:=vN_parts hv
   obtain ⟨o0,o1⟩:=head_op hh
   rw [vN_eq,hh] at hv
   simp only [Bae] at hv
   obtain ⟨⟨hv1,hv2⟩,hv3⟩:=hv
   rw [pureN_eq] at hp
   rw [vNs_iff] at hv2
   rw [vBs_iff] at hv3
   have nil_br:xs=[] → a.brs=[]:=fun e=>List.eq_nil_of_length_eq_zero (by rw [hv3.1,e];rfl)
   have nil_ar:want=[] → a.args=[]:=fun e=>List.eq_nil_of_length_eq_zero (by rw [hv2.1,e];rfl)
   have hops:a.op=0 ∨ a.op=5 ∨ a.op=1 ∨ a.op=2 ∨ a.op=6 ∨ a.op=3 ∨ a.op=7 ∨ a.op=4 ∨ a.op=8 ∨ a.op=9 ∨ a.op=10 ∨ a.op=11 ∨ a.op=12 ∨ a.op=13 ∨ a.op=14:=by omega
   have key:∀ co:Bool,a.op=(if co then 6 else 2) → PV ds fs a X A:=by
    intro co ho
    have hh2:=hh
    simp only [headOf,ho] at hh2
    have e1:¬ ((if co=true then (6:Int) else 2)=0 ∨ (if co=true then (6:Int) else 2)=5):=by cases co <;> decide
    have e2:¬ ((if co=true then (6:Int) else 2)=1):=by cases co <;> decide
    have e3:((if co=true then (6:Int) else 2)=2 ∨ (if co=true then (6:Int) else 2)=6):=by cases co <;> decide
    have e9:decide ((if co=true then (6:Int) else 2)=6)=co:=by cases co <;> rfl
    rw [if_neg e1,if_neg e2,if_pos e3,e9] at hh2
    split at hh2
    ·rename_i d hd
     split at hh2
     ·rename_i hc
      obtain ⟨x,hx,he⟩:=Option.map_eq_some_iff.1 hh2
      obtain ⟨rfl,rfl⟩:_ ∧ _:=by simpa using he
      have hp':∀ b ∈ a.args,pureN b=true:=by
       rw [ho] at hp
       cases co <;> simp at hp <;> exact hp.1
      have hco:d.codata=co:=hc.1
      have hlen:a.args.length=x.args.length:=by simpa using hv2.1
      rw [eta_node a,ho,nil_br rfl]
      refine .xtor co d x hd hco hc.2 hx hlen (fun i b g hb hg=>?_) (fun i b g hb hg=>?_)
      ·exact (hv2.2 i b _ hb (by rw [Lgm,hg];rfl)).1
      have hm:=Lmg hb
      have h9:=(hv2.2 i b _ hb (by rw [Lgm,hg];rfl)).2
      rw [ho] at h9
      refine ih1 b hm ?_ (hp' b hm)
      cases co <;> simpa using h9
     cases hh2
    cases hh2
   have keyM:∀ co:Bool,a.op=(if co then 7 else 3) → PV ds fs a X A:=by
    intro co ho
    have hh2:=hh
    simp only [headOf,ho] at hh2
    have e1:¬ ((if co=true then (7:Int) else 3)=0 ∨ (if co=true then (7:Int) else 3)=5):=by cases co <;> decide
    have e2:¬ ((if co=true then (7:Int) else 3)=1):=by cases co <;> decide
    have e3:¬ ((if co=true then (7:Int) else 3)=2 ∨ (if co=true then (7:Int) else 3)=6):=by cases co <;> decide
    have e4:((if co=true then (7:Int) else 3)=3 ∨ (if co=true then (7:Int) else 3)=7):=by cases co <;> decide
    rw [if_neg e1,if_neg e2,if_neg e3,if_pos e4] at hh2
    split at hh2
    ·rename_i hc
     obtain ⟨rfl,rfl⟩:_ ∧ _:=by simpa using hh2
     obtain ⟨b,hb⟩:∃ b,a.args=[b]:=List.length_eq_one_iff.1 (by rw [hv2.1];rfl)
     have h9:=hv2.2 0 b 2 (by rw [hb];rfl) rfl
     have hp':a.ty ≠ 0 ∧ pureN b=true:=by
      rw [ho,hb] at hp
      cases co <;> simp at hp <;> exact ⟨hp.1,hp.2.1⟩
     rw [eta_node a,ho,nil_br rfl,hb]
     refine .mu co hp'.1 hc.1 hc.2 h9.1 (ih1 b (by rw [hb];simp) ?_ hp'.2)
     have h8:=h9.2
     rw [ho] at h8
     cases co <;> simpa using h8
    cases hh2
   have keyB:∀ co:Bool,a.op=(if co then 8 else 4) → PV ds fs a X A:=by
    intro co ho
    have hh2:=hh
    simp only [headOf,ho] at hh2
    have e1:¬ ((if co=true then (8:Int) else 4)=0 ∨ (if co=true then (8:Int) else 4)=5):=by cases co <;> decide
    have e2:¬ ((if co=true then (8:Int) else 4)=1):=by cases co <;> decide
    have e3:¬ ((if co=true then (8:Int) else 4)=2 ∨ (if co=true then (8:Int) else 4)=6):=by cases co <;> decide
    have e4:¬ ((if co=true then (8:Int) else 4)=3 ∨ (if co=true then (8:Int) else 4)=7):=by cases co <;> decide
    have e5:((if co=true then (8:Int) else 4)=4 ∨ (if co=true then (8:Int) else 4)=8):=by cases co <;> decide
    have e9:decide ((if co=true then (8:Int) else 4)=4)=!co:=by cases co <;> rfl
    rw [if_neg e1,if_neg e2,if_neg e3,if_neg e4,if_pos e5,e9] at hh2
    split at hh2
    ·rename_i d hd
     split at hh2
     ·rename_i hc
      obtain ⟨rfl,rfl⟩:_ ∧ _:=by simpa using hh2
      have hp':∀ b ∈ a.brs,pureN b.body=true:=by
       rw [ho] at hp
       cases co <;> simp at hp <;> exact hp.2
      have hco:d.codata=!co:=hc.1
      rw [eta_node a,ho,nil_ar rfl,hc.2]
      refine .mat co d hd hco hv3.1 (fun i b x hb hx=>(hv3.2 i b x hb hx).1) (fun i b x hb hx=>?_)
      have hm:=Lmg hb
      exact ih2 b hm (hv3.2 i b x hb hx).2 (hp' b hm)
     cases hh2
    cases hh2
   rcases hops with o | o | o | o | o | o | o | o | o | o | o | o | o | o | o
   ·simp only [headOf,o] at hh
    simp only [true_or,if_true] at hh
    split at hh
    ·rename_i hc
     obtain ⟨rfl,rfl⟩:_ ∧ _:=by simpa using hh
     rw [eta_node a,o,nil_br rfl,nil_ar rfl,hc.1]
     exact .var hc.2 (by simpa [o] using hv1)
    cases hh
   ·simp only [headOf,o] at hh
    simp only [or_true,if_true] at hh
    split at hh
    ·rename_i hc
     obtain ⟨rfl,rfl⟩:_ ∧ _:=by simpa using hh
     rw [eta_node a,o,nil_br rfl,nil_ar rfl,hc.1]
     exact .cov hc.2 (by simpa [o] using hv1)
    cases hh
   ·rw [o] at hp;simp at hp
   ·exact key false o
   ·exact key true o
   ·exact keyM false o
   ·exact keyM true o
   ·exact keyB false o
   ·exact keyB true o
   ·simp [headOf,o] at hh
    obtain ⟨hc,rfl,rfl⟩:=hh
    obtain ⟨b,c,hb⟩:∃ b c,a.args=[b,c]:=len_two (by rw [hv2.1];rfl)
    have h8:=hv2.2 0 b 0 (by rw [hb];rfl) rfl
    have h9:=hv2.2 1 c 1 (by rw [hb];rfl) rfl
    rw [o,hb] at hp
    simp at hp
    simp [o] at h8 h9
    rw [eta_node a,o,nil_br rfl,hb,hc.2]
    exact .cut hp.1 hc.1 h8.1 h9.1 (ih1 b (by rw [hb];simp) h8.2 hp.2.1.1) (ih1 c (by rw [hb];simp) h9.2 hp.2.1.2)
   ·rw [o] at hp;simp at hp
   ·rw [o] at hp;simp at hp
   ·simp [headOf,o] at hh
    obtain ⟨hc,rfl,rfl⟩:=hh
    obtain ⟨b,c,hb⟩:∃ b c,a.args=[b,c]:=len_two (by rw [hv2.1];rfl)
    have h8:=hv2.2 0 b 0 (by rw [hb];rfl) rfl
    have h9:=hv2.2 1 c 2 (by rw [hb];rfl) rfl
    rw [o,hb] at hp
    simp at hp
    simp [o] at h8 h9
    have e:=int_node h8.2 hp.1
    rw [eta_node a,o,nil_br rfl,hb,hc.2,hc.1,e]
    exact .emit h9.1 (ih1 c (by rw [hb];simp) h9.2 hp.2)
   ·simp only [headOf,o] at hh
    simp at hh
    obtain ⟨hc,f,hf,rfl,rfl⟩:=hh
    have hp':∀ b ∈ a.args,pureN b=true:=by
     rw [o] at hp
     simp at hp
     exact hp.1
    rw [eta_node a,o,nil_br rfl,hc.1]
    refine .call f hc.2 hf (by simpa using hv2.1) (fun i b g hb hg=>?_) (fun i b g hb hg=>?_)
    ·exact (hv2.2 i b _ hb (by rw [Lgm,hg];rfl)).1
    have hm:=Lmg hb
    have h9:=(hv2.2 i b _ hb (by rw [Lgm,hg];rfl)).2
    refine ih1 b hm ?_ (hp' b hm)
    simpa [o] using h9
   simp [headOf,o] at hh
   obtain ⟨hc,rfl,rfl⟩:=hh
   obtain ⟨b,hb⟩:∃ b,a.args=[b]:=List.length_eq_one_iff.1 (by rw [hv2.1];rfl)
   have h8:=hv2.2 0 b 0 (by rw [hb];rfl) rfl
   rw [o,hb] at hp
   simp at hp
   simp [o] at h8
   have e:=int_node h8.2 hp
   rw [eta_node a,o,nil_br rfl,hb,hc.2,hc.1,e]
   exact .done
end Go.Sim.Kd
namespace Go.Sim.Kd
open Go Go.Sim
theorem addsV_not (w:Bool):∀ (vars:List Int) (cos:List Bool) (X:Int → Bool),vars.length=cos.length → addsV w X vars (cos.map not)=addsV (!w) X vars cos
 | [],_,X,_=>by simp [addsV]
 | v :: vs,[],X,h=>by simp at h
 | v :: vs,c :: cs,X,h=>by
   simp only [List.map_cons,addsV,List.headD_cons,List.tail_cons]
   rw [addsV_not w vs cs _ (by simpa using h)]
   cases c <;> cases w <;> simp
theorem dist_map:∀ (l seen:List (Int × Bool)),distinctOk (seen.map fun q=>(q.1,!q.2)) (l.map fun q=>(q.1,!q.2))=distinctOk seen l
 | [],seen=>by simp [distinctOk]
 | p :: ps,seen=>by
   simp only [List.map_cons,distinctOk]
   have e:((seen.map fun q=>(q.1,!q.2)) ++ [(p.1,!p.2)])=(seen ++ [p]).map fun q=>(q.1,!q.2):=by simp
   rw [e,dist_map ps (seen ++ [p]),List.any_map]
   congr 3
   congr 1
   funext q
   simp only [Function.comp,Pie,Bool.not_eq_not]
   by_cases h:q=p
   ·subst h;simp
   have h2:¬ (q.1=p.1 ∧ q.2=p.2):=fun h'=>h (Prod.ext h'.1 h'.2)
   simp [h,h2]
theorem dist_not (vars:List Int) (cos:List Bool):distinctOk [] (vars.zip (cos.map not))=distinctOk [] (vars.zip cos):=by
 have e:vars.zip (cos.map not)=(vars.zip cos).map fun q=>(q.1,!q.2):=by
  rw [List.zip_map_right]
  rfl
 rw [e]
 exact dist_map (vars.zip cos) []
theorem declAt_dual (ds:List Decl) (t:Int):declAt (ds.map dDecl) t=(declAt ds t).map dDecl:=by
 unfold declAt
 split
 ·rw [Lgm]
 rfl
theorem typedOk_dual (ds:List Decl) (t:Int):typedOk (ds.map dDecl) t=typedOk ds t:=by
 simp [typedOk]
theorem sortDual {ds:List Decl} {fs:List CFun} {a:Node} {X A:Int → Bool} (h:PV ds fs a X A):(sortOf a.op=0 → sortOf (dualN a).op=1) ∧ (sortOf a.op=1 → sortOf (dualN a).op=0) ∧ (sortOf a.op=2 → sortOf (dualN a).op=2):=by
 rw [dualN_op]
 cases h with
 | xtor co=>cases co <;> simp only [Node.op] <;> decide
 | mu co=>cases co <;> simp only [Node.op] <;> decide
 | mat co=>cases co <;> simp only [Node.op] <;> decide
 | _=>simp only [Node.op] <;> decide
theorem sortSide {ds:List Decl} {fs:List CFun} {a:Node} {X A:Int → Bool} (h:PV ds fs a X A) (g:Arg) (e:sortOf a.op=sideOf g.co):sortOf (dualN a).op=sideOf (dArg g).co:=by
 obtain ⟨h1,h2,_⟩:=sortDual h
 obtain ⟨ty,co⟩:=g
 cases co
 ·exact h1 e
 exact h2 e
theorem dualB_vars (b:Br):(dualB b).vars=b.vars:=by cases b;rfl
theorem dualB_co (b:Br):(dualB b).co=b.co.map not:=by cases b;rfl
theorem dualB_body (b:Br):(dualB b).body=dualN b.body:=by cases b;rfl
theorem dXtor_args (x:Xtor):(dXtor x).args=x.args.map dArg:=rfl
theorem dDecl_xtors (d:Decl):(dDecl d).xtors=d.xtors.map dXtor:=rfl
theorem dFun_params (d:CFun):(dFun d).params=d.params.map dArg:=rfl
theorem dual_mk (op n ty:Int) (args:List Node) (brs:List Br):dualN (.mk op n ty args brs)=.mk (dualOp op) n ty (if op=9 then (args.map dualN).reverse else args.map dualN) (brs.map dualB):=by
 rw [dualN_eq]
 rfl
theorem PV.dual {ds:List Decl} {fs:List CFun} {a:Node} {X A:Int → Bool} (h:PV ds fs a X A):PV (ds.map dDecl) (fs.map dFun) (dualN a) A X:=by
 induction h with
 | var h1 h2=>rw [dual_mk];exact .cov h1 h2
 | cov h1 h2=>rw [dual_mk];exact .var h1 h2
 | @xtor n ty args X A co d x h1 h2 h3 h4 h5 h6 hk ih =>
   rw [dual_mk]
   have e:PV (ds.map dDecl) (fs.map dFun) (.mk (if (!co)=true then 6 else 2) n ty (args.map dualN) []) A X:=by
    refine .xtor (!co) (dDecl d) (dXtor x) (by rw [declAt_dual,h1];rfl) (by simp [dDecl,h2]) h3 (by rw [dDecl_xtors,Lgm,h4];rfl) (by rw [dXtor_args];simpa using h5) ?_ ?_
    ·intro i b a hb ha
     rw [Lgm] at hb
     rw [dXtor_args,Lgm] at ha
     obtain ⟨b',hb',rfl⟩:=Option.map_eq_some_iff.1 hb
     obtain ⟨a',ha',rfl⟩:=Option.map_eq_some_iff.1 ha
     exact sortSide (hk i b' a' hb' ha') a' (h6 i b' a' hb' ha')
    intro i b a hb ha
    rw [Lgm] at hb
    rw [dXtor_args,Lgm] at ha
    obtain ⟨b',hb',rfl⟩:=Option.map_eq_some_iff.1 hb
    obtain ⟨a',ha',rfl⟩:=Option.map_eq_some_iff.1 ha
    exact ih i b' a' hb' ha'
   cases co <;> exact e
 | @mu n ty b X A co h1 h2 h3 h4 hk ih =>
   rw [dual_mk]
   have e:PV (ds.map dDecl) (fs.map dFun) (.mk (if (!co)=true then 7 else 3) n ty [dualN b] []) A X:=by
    refine .mu (!co) h1 (by rw [typedOk_dual];exact h2) h3 ((sortDual hk).2.2 h4) ?_
    cases co <;> exact ih
   cases co <;> exact e
 | @mat ty brs X A co d h1 h2 h3 h4 hk ih =>
   rw [dual_mk]
   have e:PV (ds.map dDecl) (fs.map dFun) (.mk (if (!co)=true then 8 else 4) 0 ty [] (brs.map dualB)) A X:=by
    refine .mat (!co) (dDecl d) (by rw [declAt_dual,h1];rfl) (by simp [dDecl,h2]) (by rw [dDecl_xtors];simpa using h3) ?_ ?_
    ·intro i b x hb hx
     rw [Lgm] at hb
     rw [dDecl_xtors,Lgm] at hx
     obtain ⟨b',hb',rfl⟩:=Option.map_eq_some_iff.1 hb
     obtain ⟨x',hx',rfl⟩:=Option.map_eq_some_iff.1 hx
     obtain ⟨g1,g2,g3,g4⟩:=h4 i b' x' hb' hx'
     refine ⟨by rw [dXtor_args,dualB_vars];simpa using g1,?_,?_,by rw [dualB_body];exact (sortDual (hk i b' x' hb' hx')).2.2 g4⟩
     ·rw [dualB_co,dXtor_args,List.map_map,g2,List.map_map]
      rfl
     rw [dualB_vars,dualB_co,dist_not]
     exact g3
    intro i b x hb hx
    rw [Lgm] at hb
    rw [dDecl_xtors,Lgm] at hx
    obtain ⟨b',hb',rfl⟩:=Option.map_eq_some_iff.1 hb
    obtain ⟨x',hx',rfl⟩:=Option.map_eq_some_iff.1 hx
    obtain ⟨g1,g2,g3,g4⟩:=h4 i b' x' hb' hx'
    rw [dualB_vars,dualB_co,dualB_body]
    have hl:b'.vars.length=b'.co.length:=by rw [g1,g2];simp
    rw [addsV_not _ _ _ _ hl,addsV_not _ _ _ _ hl]
    exact ih i b' x' hb' hx'
   cases co <;> exact e
 | @cut ty b c X A h1 h2 h3 h4 hb hc ih1 ih2 =>
   rw [dual_mk]
   exact .cut h1 (by rw [typedOk_dual];exact h2) ((sortDual hc).2.1 h4) ((sortDual hb).1 h3) ih2 ih1
 | @emit m b X A h1 hb ih =>
   rw [dual_mk]
   exact .emit ((sortDual hb).2.2 h1) ih
 | @call n args X A f h1 h2 h3 h4 hk ih =>
   rw [dual_mk]
   refine .call (dFun f) h1 (by rw [Lgm,h2];rfl) (by rw [dFun_params];simpa using h3) ?_ ?_
   ·intro i b a hb ha
    rw [if_neg (by decide),Lgm] at hb
    rw [dFun_params,Lgm] at ha
    obtain ⟨b',hb',rfl⟩:=Option.map_eq_some_iff.1 hb
    obtain ⟨a',ha',rfl⟩:=Option.map_eq_some_iff.1 ha
    exact sortSide (hk i b' a' hb' ha') a' (h4 i b' a' hb' ha')
   intro i b a hb ha
   rw [if_neg (by decide),Lgm] at hb
   rw [dFun_params,Lgm] at ha
   obtain ⟨b',hb',rfl⟩:=Option.map_eq_some_iff.1 hb
   obtain ⟨a',ha',rfl⟩:=Option.map_eq_some_iff.1 ha
   exact ih i b' a' hb' ha'
 | done=>rw [dual_mk];exact .done
theorem map_id' {α:Type} {f:α → α} {l:List α} (h:∀ a ∈ l,f a=a):l.map f=l:=by
 induction l with
 | nil=>rfl
 | cons a l ih=>rw [List.map_cons,h a (by simp),ih fun b hb=>h b (by simp [hb])]
theorem PV.twice {ds:List Decl} {fs:List CFun} {a:Node} {X A:Int → Bool} (h:PV ds fs a X A):dualN (dualN a)=a:=by
 induction h with
 | var h1 h2=>rfl
 | cov h1 h2=>rfl
 | @xtor n ty args X A co d x h1 h2 h3 h4 h5 h6 hk ih =>
   have e:args.map (dualN ∘ dualN)=args:=map_id' fun b hb=>by
    obtain ⟨i,y,h7,h8⟩:=get_mem h5 hb
    exact ih i b y h7 h8
   cases co <;> simp [dual_mk,dualOp,dualsL,e]
 | @mu n ty b X A co h1 h2 h3 h4 hk ih=>cases co <;> simp [dual_mk,dualOp,dualsL,ih]
 | @mat ty brs X A co d h1 h2 h3 h4 hk ih =>
   have e:brs.map (dualB ∘ dualB)=brs:=map_id' fun b hb=>by
    obtain ⟨i,y,h7,h8⟩:=get_mem h3 hb
    have h9:=ih i b y h7 h8
    cases b with
    | mk vars co body =>
      simp only [Function.comp,dualB,Br.body] at h9 ⊢
      rw [h9,List.map_map,map_id' fun b _=>by simp]
   cases co <;> simp [dual_mk,dualOp,dualsL,e]
 | @cut ty b c X A h1 h2 h3 h4 hb hc ih1 ih2=>simp [dual_mk,dualOp,dualsL,ih1,ih2]
 | @emit m b X A h1 hb ih=>simp [dual_mk,dualOp,dualsL,ih]
 | @call n args X A f h1 h2 h3 h4 hk ih =>
   have e:args.map (dualN ∘ dualN)=args:=map_id' fun b hb=>by
    obtain ⟨i,y,h7,h8⟩:=get_mem h3 hb
    exact ih i b y h7 h8
   simp [dual_mk,dualOp,dualsL,e]
 | done=>simp [dual_mk,dualOp,dualsL]
theorem dDecl_twice (d:Decl):dDecl (dDecl d)=d:=by
 cases d
 simp only [dDecl,List.map_map,Bool.not_not]
 congr 1
 refine map_id' fun x _=>?_
 cases x
 simp only [Function.comp,dXtor,List.map_map]
 congr 1
 refine map_id' fun x _=>?_
 cases x
 simp [dArg]
theorem binds_dual (w:Bool):∀ (vars:List Int) (as:List Arg) (X:Int → Option Int),bindsT w X vars (as.map dArg)=bindsT (!w) X vars as
 | [],_,_=>by simp [bindsT]
 | _ :: _,[],_=>by simp [bindsT]
 | v :: vs,a :: as,X=>by
   simp only [List.map_cons,bindsT,dArg]
   rw [binds_dual w vs as]
   cases a.co <;> cases w <;> simp
theorem tNs_eq {ds ds':List Decl} {fs fs':List CFun} {X A X' A':Int → Option Int} {f:Node → Node}:∀ (l:List Node) (ws:List Int),(∀ b ∈ l,tN ds' fs' (f b) X' A'=tN ds fs b X A) → tNs ds' fs' (l.map f) ws X' A'=tNs ds fs l ws X A
 | [],_,_=>by simp [tNs]
 | _ :: _,[],_=>by simp [tNs]
 | b :: l,w :: ws,h=>by
   simp only [List.map_cons,tNs]
   rw [h b (by simp),tNs_eq l ws fun c hc=>h c (by simp [hc])]
theorem tBs_eq {ds ds':List Decl} {fs fs':List CFun} {X A X' A':Int → Option Int}:∀ (l:List Br) (xs:List Xtor),(∀ (i:Nat) b x,l[i]?=some b → xs[i]?=some x → tB ds' fs' (dualB b) (dXtor x) X' A'=tB ds fs b x X A) → tBs ds' fs' (l.map dualB) (xs.map dXtor) X' A'=tBs ds fs l xs X A
 | [],_,_=>by simp [tBs]
 | _ :: _,[],_=>by simp [tBs]
 | b :: l,w :: ws,h=>by
   simp only [List.map_cons,tBs]
   rw [h 0 b w rfl rfl,tBs_eq l ws fun i c x hc hx=>h (i + 1) c x (by simpa using hc) (by simpa using hx)]
theorem xtorTys_dual (ds:List Decl) (ty n:Int):xtorTys (ds.map dDecl) ty n=xtorTys ds ty n:=by
 unfold xtorTys
 rw [declAt_dual]
 cases declAt ds ty with
 | none=>rfl
 | some d =>
   simp only [Option.map_some,dDecl_xtors,Lgm]
   cases d.xtors[n.toNat]? with
   | none=>rfl
   | some x =>
     simp only [Option.map_some,dXtor_args,List.map_map]
     rfl
theorem xtorsOf_dual (ds:List Decl) (ty:Int):xtorsOf (ds.map dDecl) ty=(xtorsOf ds ty).map dXtor:=by
 unfold xtorsOf
 rw [declAt_dual]
 cases declAt ds ty <;> rfl
theorem parTys_dual (fs:List CFun) (n:Int):parTys (fs.map dFun) n=parTys fs n:=by
 unfold parTys
 rw [Lgm]
 cases fs[n.toNat]? with
 | none=>rfl
 | some f =>
   simp only [Option.map_some,dFun_params,List.map_map]
   rfl
theorem PV.type {ds:List Decl} {fs:List CFun} {a:Node} {X A:Int → Bool} (h:PV ds fs a X A):∀ Y B:Int → Option Int,tN (ds.map dDecl) (fs.map dFun) (dualN a) B Y=tN ds fs a Y B:=by
 induction h with
 | var h1 h2=>intro Y B;simp [dual_mk,dualOp,dualsL,tN]
 | cov h1 h2=>intro Y B;simp [dual_mk,dualOp,dualsL,tN]
 | @xtor n ty args X A co d x h1 h2 h3 h4 h5 h6 hk ih =>
   intro Y B
   have e:tNs (ds.map dDecl) (fs.map dFun) (args.map dualN) (xtorTys ds ty n) B Y=tNs ds fs args (xtorTys ds ty n) Y B:=tNs_eq _ _ fun b hb=>by
    obtain ⟨i,y,h7,h8⟩:=get_mem h5 hb
    exact ih i b y h7 h8 Y B
   cases co <;> simp [dual_mk,dualOp,dualsL,tN,xtorTys_dual,e]
 | @mu n ty b X A co h1 h2 h3 h4 hk ih=>intro Y B;cases co <;> simp [dual_mk,dualOp,dualsL,tN,tNs,ih]
 | @mat ty brs X A co d h1 h2 h3 h4 hk ih =>
   intro Y B
   have e:tBs (ds.map dDecl) (fs.map dFun) (brs.map dualB) ((xtorsOf ds ty).map dXtor) B Y=tBs ds fs brs (xtorsOf ds ty) Y B:=tBs_eq _ _ fun i b x hb hx=>by
    have hx':d.xtors[i]?=some x:=by
     unfold xtorsOf at hx
     rw [h1] at hx
     exact hx
    rw [tB_eq,tB_eq,dualB_vars,dualB_body,dXtor_args,binds_dual,binds_dual]
    rw [Bool.not_false,Bool.not_true,ih i b x hb hx']
   cases co <;> simp [dual_mk,dualOp,dualsL,tN,xtorsOf_dual,e]
 | @cut ty b c X A h1 h2 h3 h4 hb hc ih1 ih2 =>
   intro Y B
   simp [dual_mk,dualOp,dualsL,tN,tNs,ih1,ih2]
   simp only [and_comm]
 | @emit m b X A h1 hb ih=>intro Y B;simp [dual_mk,dualOp,dualsL,tN,tNs,ih]
 | @call n args X A f h1 h2 h3 h4 hk ih =>
   intro Y B
   have e:tNs (ds.map dDecl) (fs.map dFun) (args.map dualN) (parTys fs n) B Y=tNs ds fs args (parTys fs n) Y B:=tNs_eq _ _ fun b hb=>by
    obtain ⟨i,y,h7,h8⟩:=get_mem h3 hb
    exact ih i b y h7 h8 Y B
   simp [dual_mk,dualOp,dualsL,tN,parTys_dual,e]
 | done=>intro Y B;simp [dual_mk,dualOp,dualsL,tN,tNs]
end Go.Sim.Kd
namespace Go.Sim.Kd
open Go Go.Sim
theorem szNs_app (l m:List Node):szNs (l ++ m)=szNs l + szNs m:=by induction l with
 | nil=>simp [szNs]
 | cons a l ih=>simp only [List.cons_append,szNs,ih];omega
theorem szNs_rev (l:List Node):szNs l.reverse=szNs l:=by induction l with
 | nil=>rfl
 | cons a l ih=>rw [List.reverse_cons,szNs_app,ih];simp only [szNs];omega
theorem szNs_map {f:Node → Node}:∀ (l:List Node),(∀ b ∈ l,(f b).sz=b.sz) → szNs (l.map f)=szNs l
 | [],_=>rfl
 | b :: l,h=>by simp only [List.map_cons,szNs];rw [h b (by simp),szNs_map l fun c hc=>h c (by simp [hc])]
theorem szBs_map {f:Br → Br}:∀ (l:List Br),(∀ b ∈ l,(f b).sz=b.sz) → szBs (l.map f)=szBs l
 | [],_=>rfl
 | b :: l,h=>by simp only [List.map_cons,szBs];rw [h b (by simp),szBs_map l fun c hc=>h c (by simp [hc])]
theorem szL_map {α:Type} {s:α → Nat} {f:α → α}:∀ (l:List α),(∀ b ∈ l,s (f b)=s b) → szL s (l.map f)=szL s l
 | [],_=>rfl
 | b :: l,h=>by simp only [List.map_cons,szL];rw [h b (by simp),szL_map l fun c hc=>h c (by simp [hc])]
theorem mxL_map {α:Type} {s:α → Nat} {f:α → α}:∀ (l:List α),(∀ b ∈ l,s (f b)=s b) → mxL s (l.map f)=mxL s l
 | [],_=>rfl
 | b :: l,h=>by simp only [List.map_cons,mxL];rw [h b (by simp),mxL_map l fun c hc=>h c (by simp [hc])]
theorem Node.sz_eq (a:Node):a.sz=1 + szNs a.args + szBs a.brs:=by cases a;rfl
theorem dual_sz (a:Node):(dualN a).sz=a.sz:=by
 induction a using Node.ind with
 | h a ih1 ih2 =>
   have e1:szNs (a.args.map dualN)=szNs a.args:=szNs_map _ ih1
   have e2:szBs (a.brs.map dualB)=szBs a.brs:=szBs_map _ fun b hb=>by
    rw [Br.sz_eq,Br.sz_eq,dualB_vars,dualB_co,dualB_body,ih2 b hb,List.length_map]
   rw [dualN_eq,Node.sz_eq,Node.sz_eq a]
   show 1 + szNs (if a.op=9 then (a.args.map dualN).reverse else a.args.map dualN) + szBs (a.brs.map dualB)=_
   split
   ·rw [szNs_rev,e1,e2]
   rw [e1,e2]
theorem dualC_sz (c:Core):(dualC c).sz=c.sz:=by
 have e1:szL Decl.sz (c.decls.map dDecl)=szL Decl.sz c.decls:=szL_map _ fun d _=>by
  have e2:szL Xtor.sz (d.xtors.map dXtor)=szL Xtor.sz d.xtors:=szL_map _ fun x _=>by
   show 1 + x.name.size + (x.args.map dArg).length=1 + x.name.size + x.args.length
   rw [List.length_map]
  show 1 + d.name.size + szL Xtor.sz (d.xtors.map dXtor)=1 + d.name.size + szL Xtor.sz d.xtors
  rw [e2]
 have e3:szL CFun.sz (c.funs.map dFun)=szL CFun.sz c.funs:=szL_map _ fun g _=>by
  show 1 + g.name.size + (g.params.map dArg).length + g.vars.length + (dualN g.body).sz=1 + g.name.size + g.params.length + g.vars.length + g.body.sz
  rw [List.length_map,dual_sz]
 show 1 + szL Decl.sz (c.decls.map dDecl) + szL CFun.sz (c.funs.map dFun)=1 + szL Decl.sz c.decls + szL CFun.sz c.funs
 rw [e1,e3]
structure SzD (c:Core):Prop where
 z:c.sz ≤ 2 ^ 40
 hc:CoreSz c
 dl:c.decls.length ≤ 2 ^ 30
 xl:∀ d ∈ c.decls,d.xtors.length ≤ 2 ^ 30
 xa:∀ d ∈ c.decls,∀ x ∈ d.xtors,x.args.length ≤ 2 ^ 30
 fl:c.funs.length ≤ 2 ^ 30
 fp:∀ g ∈ c.funs,g.params.length ≤ 2 ^ 30
 fv:∀ g ∈ c.funs,g.vars.length ≤ 2 ^ 40
 bz:∀ g ∈ c.funs,g.body.sz ≤ 2 ^ 30
theorem SzD.of {c:Core} (h:c.sz ≤ 2 ^ 30):SzD c:=by
 have h0:=h
 unfold Core.sz at h
 have hd:c.decls.length ≤ szL Decl.sz c.decls:=szL_len fun d=>by unfold Decl.sz;omega
 have hf:c.funs.length ≤ szL CFun.sz c.funs:=szL_len CFun.sz_pos
 have hg:∀ g ∈ c.funs,g.sz ≤ 2 ^ 30:=fun g hg=>by have:=szL_mem (f:=CFun.sz) hg;omega
 have hD:∀ d ∈ c.decls,d.sz ≤ 2 ^ 30:=fun g hg=>by have:=szL_mem (f:=Decl.sz) hg;omega
 have hx:∀ d ∈ c.decls,d.xtors.length ≤ 2 ^ 30:=fun d h1=>by
  have:=hD d h1
  have h2:d.xtors.length ≤ szL Xtor.sz d.xtors:=szL_len fun x=>by unfold Xtor.sz;omega
  unfold Decl.sz at this
  omega
 have hxa:∀ d ∈ c.decls,∀ x ∈ d.xtors,x.args.length ≤ 2 ^ 30:=fun d h1 x h2=>by
  have:=hD d h1
  have h3:=szL_mem (f:=Xtor.sz) h2
  unfold Decl.sz at this
  have e2:x.sz=1 + x.name.size + x.args.length:=rfl
  omega
 have hgp:∀ g ∈ c.funs,g.params.length ≤ 2 ^ 30 ∧ g.vars.length ≤ 2 ^ 30 ∧ g.body.sz ≤ 2 ^ 30:=fun g h1=>by have:=hg g h1;unfold CFun.sz at this;omega
 exact ⟨by omega,⟨by omega,fun d h1 x h2=>Nat.le_trans (hxa d h1 x h2) (by decide),fun g h1=>Nat.le_trans (hgp g h1).1 (by decide)⟩,by omega,hx,hxa,by omega,fun g h1=>(hgp g h1).1,fun g h1=>Nat.le_trans (hgp g h1).2.1 (by decide),fun g h1=>(hgp g h1).2.2⟩
theorem core_pv {c:Core} (h1:coreOk c=true) (h2:isPureC c=true):∀ g ∈ c.funs,PV c.decls c.funs g.body (pScope false g) (pScope true g):=by
 intro g hg
 have h3:=(((coreOk_iff c).1 h1).2.2.1 g hg).2.1
 simp only [isPureC,Bae,List.all_eq_true] at h2
 have h4:=h2.1.2 g hg
 simp only [funP,Bae] at h4
 exact PV.of _ h3 h4.2
theorem pScope_dual (w:Bool) (g:CFun) (h:g.vars.length=g.params.length):pScope w (dFun g)=pScope (!w) g:=by
 unfold pScope
 have e:(dFun g).params.map (fun a=>a.co)=(g.params.map fun a=>a.co).map not:=by
  rw [dFun_params,List.map_map,List.map_map]
  rfl
 rw [e]
 exact addsV_not w g.vars _ _ (by simpa using h)
theorem typesOk_dual (N:Nat) (l:List Arg):typesOk N (l.map dArg)=typesOk N l:=by
 unfold typesOk
 rw [List.all_map]
 rfl
theorem xtorsOk_dual (N:Nat):∀ (xs:List Xtor) (seen:List ByteArray),xtorsOk N seen (xs.map dXtor)=xtorsOk N seen xs
 | [],_=>rfl
 | x :: xs,seen=>by
   simp only [List.map_cons,xtorsOk]
   have e:xtorOk N seen (dXtor x)=xtorOk N seen x:=by
    simp only [xtorOk,dXtor,typesOk_dual,List.length_map]
    rfl
   rw [e,xtorsOk_dual N xs]
   rfl
theorem declsOk_dual (N:Nat):∀ (ds:List Decl) (names seen:List ByteArray),declsOk N names seen (ds.map dDecl)=declsOk N names seen ds
 | [],_,_=>rfl
 | d :: ds,names,seen=>by
   simp only [List.map_cons,declsOk,dDecl_xtors,xtorsOk_dual]
   have e:declOk names (dDecl d)=declOk names d:=by
    simp only [declOk,dDecl,List.length_map]
    rfl
   rw [e]
   congr 1
   split
   ·exact declsOk_dual N ds _ _
   rfl
theorem funsOk_dual (N:Nat):∀ (gs:List CFun) (i:Nat) (names:List ByteArray),(i=0 → ∀ g,gs[0]?=some g → g.params=[]) → funsOk N i names (gs.map dFun)=funsOk N i names gs
 | [],_,_,_=>rfl
 | g :: gs,i,names,h=>by
   simp only [List.map_cons,funsOk]
   have e:funOk N i names (dFun g)=funOk N i names g:=by
    have e1:(dFun g).params.map (fun a=>a.co)=(g.params.map fun a=>a.co).map not:=by
     rw [dFun_params,List.map_map,List.map_map]
     rfl
    have e2:(dFun g).params.all (parOk N i)=g.params.all (parOk N i):=by
     by_cases hi:i=0
     ·rw [dFun_params,h hi g rfl]
      rfl
     rw [dFun_params,List.all_map]
     congr 1
     funext a
     simp [parOk,dArg,hi]
     rfl
    simp only [funOk]
    rw [e1,e2,dist_not]
    simp only [dFun,List.length_map]
    rfl
   rw [e,funsOk_dual N gs _ _ fun h0=>by omega]
   rfl
theorem nNodes_dual {ds:List Decl} {fs:List CFun} {a:Node} {X A:Int → Bool} (h:PV ds fs a X A):nNodes (dualN a)=nNodes a ∧ nDepth (dualN a)=nDepth a:=by
 induction h with
 | var h1 h2=>exact ⟨rfl,rfl⟩
 | cov h1 h2=>exact ⟨rfl,rfl⟩
 | @xtor n ty args X A co d x h1 h2 h3 h4 h5 h6 hk ih =>
   have e:∀ b ∈ args,nNodes (dualN b)=nNodes b ∧ nDepth (dualN b)=nDepth b:=fun b hb=>by
    obtain ⟨i,y,h7,h8⟩:=get_mem h5 hb
    exact ih i b y h7 h8
   have e1:szL nNodes (args.map dualN)=szL nNodes args:=szL_map _ fun b hb=>(e b hb).1
   have e2:mxL nDepth (args.map dualN)=mxL nDepth args:=mxL_map _ fun b hb=>(e b hb).2
   cases co <;> simp [dual_mk,dualOp,dualsL,nNodes_eq (.mk _ _ _ _ _),nDepth_eq (.mk _ _ _ _ _),Node.op,Node.args,Node.brs,leafOp,e1,e2]
 | @mu n ty b X A co h1 h2 h3 h4 hk ih=>cases co <;> simp [dual_mk,dualOp,dualsL,nNodes_eq (.mk _ _ _ _ _),nDepth_eq (.mk _ _ _ _ _),Node.op,Node.args,Node.brs,leafOp,szL,mxL,ih]
 | @mat ty brs X A co d h1 h2 h3 h4 hk ih =>
   have e:∀ b ∈ brs,nNodes (dualB b).body=nNodes b.body ∧ nDepth (dualB b).body=nDepth b.body:=fun b hb=>by
    obtain ⟨i,y,h7,h8⟩:=get_mem h3 hb
    rw [dualB_body]
    exact ih i b y h7 h8
   have e1:szL (fun b=>nNodes b.body) (brs.map dualB)=szL (fun b=>nNodes b.body) brs:=szL_map _ fun b hb=>(e b hb).1
   have e2:mxL (fun b=>nDepth b.body) (brs.map dualB)=mxL (fun b=>nDepth b.body) brs:=mxL_map _ fun b hb=>(e b hb).2
   cases co <;> simp [dual_mk,dualOp,dualsL,nNodes_eq (.mk _ _ _ _ _),nDepth_eq (.mk _ _ _ _ _),Node.op,Node.args,Node.brs,leafOp,e1,e2,szL,mxL]
 | @cut ty b c X A h1 h2 h3 h4 hb hc ih1 ih2 =>
   simp [dual_mk,dualOp,dualsL,nNodes_eq (.mk _ _ _ _ _),nDepth_eq (.mk _ _ _ _ _),Node.op,Node.args,Node.brs,leafOp,szL,mxL,ih1,ih2]
   omega
 | @emit m b X A h1 hb ih=>simp [dual_mk,dualOp,dualsL,nNodes_eq (.mk _ _ _ _ _),nDepth_eq (.mk _ _ _ _ _),Node.op,Node.args,Node.brs,leafOp,szL,mxL,ih]
 | @call n args X A f h1 h2 h3 h4 hk ih =>
   have e:∀ b ∈ args,nNodes (dualN b)=nNodes b ∧ nDepth (dualN b)=nDepth b:=fun b hb=>by
    obtain ⟨i,y,h7,h8⟩:=get_mem h3 hb
    exact ih i b y h7 h8
   have e1:szL nNodes (args.map dualN)=szL nNodes args:=szL_map _ fun b hb=>(e b hb).1
   have e2:mxL nDepth (args.map dualN)=mxL nDepth args:=mxL_map _ fun b hb=>(e b hb).2
   simp [dual_mk,dualOp,dualsL,nNodes_eq (.mk _ _ _ _ _),nDepth_eq (.mk _ _ _ _ _),Node.op,Node.args,Node.brs,leafOp,e1,e2]
 | done=>exact ⟨rfl,rfl⟩
theorem core_dual {c:Core} (h1:coreOk c=true) (h2:isPureC c=true):coreOk (dualC c)=true:=by
 have hv:=core_pv h1 h2
 obtain ⟨a1,a2,a3,a4⟩:=(coreOk_iff c).1 h1
 have hp:=headsOk_mem a2
 refine (coreOk_iff _).2 ⟨?_,?_,fun g hg=>?_,?_⟩
 ·have:=declsOk_dual c.decls.length c.decls [] []
  simp only [declsValid,dualC,List.length_map] at a1 ⊢
  rw [this]
  exact a1
 ·have e:=funsOk_dual c.decls.length c.funs 0 [] fun _ g hg=>by
   simp only [isPureC,Bae,Dte] at h2
   have h3:=h2.2
   rw [Lgm,hg] at h3
   exact List.eq_nil_of_length_eq_zero h3
  simp only [headsOk,dualC,List.length_map] at a2 ⊢
  rw [e]
  exact a2
 ·obtain ⟨g',hg',rfl⟩:=List.mem_map.1 hg
  obtain ⟨b1,b2,b3⟩:=a3 g' hg'
  have h3:=hv g' hg'
  rw [pScope_dual _ _ (hp g' hg').2,pScope_dual _ _ (hp g' hg').2]
  exact ⟨(sortDual h3).2.2 b1,h3.dual.ok.1,by rw [show (dFun g').body=dualN g'.body from rfl,(nNodes_dual h3).2];exact b3⟩
 have e:szL (fun g=>nNodes g.body) (c.funs.map dFun)=szL (fun g=>nNodes g.body) c.funs:=szL_map _ fun g hg=>(nNodes_dual (hv g hg)).1
 simp only [dualC]
 rw [e]
 exact a4
theorem typedA_dual (l:List Arg):typedA (l.map dArg)=typedA l:=by
 unfold typedA
 rw [List.any_map]
 rfl
theorem pure_dual {c:Core} (h1:coreOk c=true) (h2:isPureC c=true):isPureC (dualC c)=true:=by
 have hv:=core_pv h1 h2
 have hk:=h2
 simp only [isPureC,Bae,List.all_eq_true,Dte] at hk ⊢
 obtain ⟨⟨k1,k2⟩,k3⟩:=hk
 refine ⟨⟨fun d hd=>?_,fun g hg=>?_⟩,?_⟩
 ·obtain ⟨d',hd',rfl⟩:=List.mem_map.1 hd
  have:=k1 d' hd'
  simp only [xtorsT,List.all_eq_true] at this ⊢
  intro x hx
  rw [dDecl_xtors] at hx
  obtain ⟨x',hx',rfl⟩:=List.mem_map.1 hx
  rw [dXtor_args,typedA_dual]
  exact this x' hx'
 ·obtain ⟨g',hg',rfl⟩:=List.mem_map.1 hg
  have:=k2 g' hg'
  simp only [funP,Bae] at this ⊢
  exact ⟨by rw [dFun_params,typedA_dual];exact this.1,(hv g' hg').dual.ok.2⟩
 have e:(dualC c).funs.map (fun g=>g.params.length)=c.funs.map fun g=>g.params.length:=by
  simp only [dualC,List.map_map]
  refine List.map_congr_left fun g _=>?_
  simp [dFun]
 rw [e]
 exact k3
theorem dualC_twice {c:Core} (h1:coreOk c=true) (h2:isPureC c=true):dualC (dualC c)=c:=by
 have hv:=core_pv h1 h2
 cases c with
 | mk decls funs =>
   simp only [dualC,List.map_map]
   congr 1
   ·exact map_id' fun d _=>dDecl_twice d
   refine map_id' fun g hg=>?_
   have h3:=(hv g hg).twice
   cases g with
   | mk name params vars body =>
     simp only [Function.comp,dFun,List.map_map] at h3 ⊢
     rw [h3,map_id' fun a _=>by cases a;simp [dArg]]
theorem type_dual {c:Core} (h1:coreOk c=true) (h2:isPureC c=true):typedOk2 (dualC c)=typedOk2 c:=by
 have hv:=core_pv h1 h2
 unfold typedOk2
 have e:∀ l:List CFun,(∀ g ∈ l,g ∈ c.funs) → (l.map dFun).all (funT (dualC c))=l.all (funT c):=by
  intro l
  induction l with
  | nil=>intro _;rfl
  | cons g l ih =>
    intro hl
    simp only [List.map_cons,List.all_cons]
    rw [ih fun x hx=>hl x (by simp [hx])]
    congr 1
    simp only [funT,dFun_params,binds_dual]
    have:=(hv g (hl g (by simp))).type (bindsT false (fun _=>none) g.vars g.params) (bindsT true (fun _=>none) g.vars g.params)
    exact congrArg Option.isSome this
 exact e c.funs fun _ h=>h
theorem awake_c (s:Sg) (hQ:QOK s) (hD:DQ s):HC p N7_ [] s (fun r s'=>r=[B true] ∧ s'=s):=by
 refine ⟨_,s,?_,rfl,rfl⟩
 rw [callL_eq]
 have e:p.ov N7_=some awakeOv:=rfl
 rw [e]
 simp only [awakeOv]
 rw [if_pos ⟨rfl,by rw [Bae];exact ⟨hQ,hD⟩⟩]
theorem Dual_ok (s:Sg) (hQ:QOK s) (hD:DQ s) (c:Core) (z:SzD c) (h1:coreOk c=true) (h2:isPureC c=true):HC p N9_ [.agg (Core.cs c)] s (fun r s'=>r=[.agg (Core.cs (dualC c)),I 0] ∧ Ext s s'):=by
 have h:=Dual_c s hQ hD c z.hc z.dl z.xl z.xa z.fl z.fp z.fv z.bz
 rw [if_pos h1,if_pos h2] at h
 exact h
theorem Dual_no (s:Sg) (hQ:QOK s) (hD:DQ s) (c:Core) (z:SzD c) (h1:¬ (coreOk c=true ∧ isPureC c=true)):∃ e:Int,e ≠ 0 ∧ HC p N9_ [.agg (Core.cs c)] s (fun r s'=>r=[.agg (Core.cs ⟨[],[]⟩),I e] ∧ Ext s s'):=by
 have h:=Dual_c s hQ hD c z.hc z.dl z.xl z.xa z.fl z.fp z.fv z.bz
 by_cases h2:coreOk c=true
 ·rw [if_pos h2,if_neg fun h3=>h1 ⟨h2,h3⟩] at h
  exact ⟨110,by decide,h⟩
 rw [if_neg h2] at h
 exact ⟨60,by decide,h⟩
theorem Pure_ok (s:Sg) (hQ:QOK s) (c:Core) (z:SzD c) (h1:coreOk c=true) (h2:isPureC c=true):HC p N8_ [.agg (Core.cs c)] s (fun r s'=>r=[B true,I 0] ∧ Ext s s'):=by
 have h:=Pure_c s hQ c z.hc (fun d hd=>Nat.le_trans (z.xl d hd) (by decide)) (Nat.le_trans z.fl (by decide)) z.fv (fun g hg=>Nat.le_trans (z.bz g hg) (by decide))
 rw [if_pos h1,h1,h2] at h
 exact h
theorem Check_ok (s:Sg) (hQ:QOK s) (c:Core) (z:SzD c) (h1:coreOk c=true):HC p N16_ [.agg (Core.cs c)] s (fun r s'=>r=[I (if typedOk2 c=true then 0 else 70)] ∧ Ext s s'):=by
 have h:=Check_c s hQ c z.hc z.fv (fun g hg=>Nat.le_trans (z.bz g hg) (by decide)) (Nat.le_trans z.fl (by decide))
 rw [if_pos h1] at h
 exact h
theorem QOK.e {s s':Sg} (h:QOK s) (e:Ext s s'):QOK s':=by
 unfold QOK at *
 rw [e.Q]
 exact h
theorem DualTwice_no (s:Sg) (hQ:QOK s) (hD:DQ s) (c:Core) (hz:c.sz ≤ 2 ^ 30) (z:SzD c) (hn:¬ (coreOk c=true ∧ isPureC c=true)):HC p N5_ [.agg (Core.cs c)] s (fun r s'=>r=[B true] ∧ Ext s s'):=by
 refine hcf rfl f5_ rfl ?_
 simp only [chainOf]
 refine er (hbox (dc dn rfl) rfl (lq2 rfl rfl rfl) (qp rfl (qn (kq1 rfl) (kq1 rfl) (eseq (er (hlda rfl rfl (lq2 rfl rfl rfl) (hcall rfl rfl rfl (Few_c _ c z.z 3000 (by decide) (by decide)) ?_)))))))
 rintro _ _ ⟨rfl,rfl⟩
 refine qb ?_
 rintro (_ | _) h1
 ·refine qp rfl (qn (kq2 rfl rfl) (kq1 rfl) (ecT rfl (er (hcall rfl rfl rfl (awake_c _ hQ hD) ?_))))
  rintro _ _ ⟨rfl,rfl⟩
  refine qp rfl (qn (kq1 rfl) kn (eret (sqr (fqr rfl ?_))))
  first | exact ⟨rfl,Ext.refl _⟩ | exact ⟨rfl,hE1⟩
 refine qp rfl (qn (kq2 rfl rfl) (kq1 rfl) (ecF rfl (eskip (sqn (er (hlda rfl rfl (lq2 rfl rfl rfl) (hcall rfl rfl rfl ((Dual_no _ hQ hD c z hn).choose_spec.2) ?_)))))))
 rintro _ S1 ⟨rfl,hE1⟩
 have he:=(Dual_no _ hQ hD c z hn).choose_spec.1
 generalize (Dual_no _ hQ hD c z hn).choose=e at he ⊢
 refine pq3 rfl rfl rfl (hal (dq7 rfl rfl rfl rfl rfl rfl rfl) (hstl rfl rfl rfl rfl (Nlb rfl) (lq2 rfl rfl rfl) (qp rfl (qn (kq3 rfl rfl rfl) (kq2 rfl rfl) (eseq (er (pq2 rfl rfl (qb ?_))))))))
 rintro (_ | _) h2
 ·exact absurd h2 (by simp [he])
 refine qn (kq3 rfl rfl rfl) (kq2 rfl rfl) (ecT rfl (er (hcall rfl rfl rfl (awake_c _ (hQ.e hE1) (hD.e hE1)) ?_)))
 rintro _ _ ⟨rfl,rfl⟩
 refine qp rfl (qn (kq1 rfl) kn (eret (sqr (fqr rfl ?_))))
 first | exact ⟨rfl,Ext.refl _⟩ | exact ⟨rfl,hE1⟩
theorem DualTwice_ok (s:Sg) (hQ:QOK s) (hD:DQ s) (c:Core) (hz:c.sz ≤ 2 ^ 30) (z:SzD c) (k1:coreOk c=true) (k2:isPureC c=true):HC p N5_ [.agg (Core.cs c)] s (fun r s'=>r=[B true] ∧ Ext s s'):=by
 have zd:SzD (dualC c):=SzD.of (by rw [dualC_sz];exact hz)
 have d1:=core_dual k1 k2
 have d2:=pure_dual k1 k2
 refine hcf rfl f5_ rfl ?_
 simp only [chainOf]
 refine er (hbox (dc dn rfl) rfl (lq2 rfl rfl rfl) (qp rfl (qn (kq1 rfl) (kq1 rfl) (eseq (er (hlda rfl rfl (lq2 rfl rfl rfl) (hcall rfl rfl rfl (Few_c _ c z.z 3000 (by decide) (by decide)) ?_)))))))
 rintro _ _ ⟨rfl,rfl⟩
 refine qb ?_
 rintro (_ | _) h1
 ·refine qp rfl (qn (kq2 rfl rfl) (kq1 rfl) (ecT rfl (er (hcall rfl rfl rfl (awake_c _ hQ hD) ?_))))
  rintro _ _ ⟨rfl,rfl⟩
  refine qp rfl (qn (kq1 rfl) kn (eret (sqr (fqr rfl ?_))))
  first | exact ⟨rfl,Ext.refl _⟩ | exact ⟨rfl,hE1⟩ | exact ⟨rfl,hE.trans (hE4.trans hE5)⟩ | (exfalso;simp_all)
 refine qp rfl (qn (kq2 rfl rfl) (kq1 rfl) (ecF rfl (eskip (sqn (er (hlda rfl rfl (lq2 rfl rfl rfl) (hcall rfl rfl rfl (Dual_ok _ hQ hD c z k1 k2) ?_)))))))
 rintro _ S1 ⟨rfl,hE1⟩
 refine pq3 rfl rfl rfl (hal (dq7 rfl rfl rfl rfl rfl rfl rfl) (hstl rfl rfl rfl rfl (Nlb rfl) (lq2 rfl rfl rfl) (qp rfl (qn (kq3 rfl rfl rfl) (kq2 rfl rfl) (eseq (er (pq2 rfl rfl (qb ?_))))))))
 rintro (_ | _) h2
 ·refine qn (kq3 rfl rfl rfl) (kq2 rfl rfl) (ecF rfl (eskip (sqn (er (hlda rfl rfl (lq2 rfl rfl rfl) (hcall rfl rfl rfl (Pure_ok _ (hQ.e hE1) _ zd d1 d2) ?_))))))
  rintro _ S2 ⟨rfl,hE2⟩
  refine pq2 rfl rfl (qb ?_)
  rintro (_ | _) h3
  ·refine pq3 rfl rfl rfl (qn (kq4 rfl rfl rfl rfl) (kq2 rfl rfl) (er (hlda rfl rfl (lq2 rfl rfl rfl) (hcall rfl rfl rfl (Dual_ok _ (hQ.e (hE1.trans hE2)) (hD.e (hE1.trans hE2)) _ zd d1 d2) ?_))))
   rintro _ S3 ⟨rfl,hE3⟩
   rw [dualC_twice k1 k2]
   have hE:=hE1.trans (hE2.trans hE3)
   refine pq3 rfl rfl rfl (hal (dq9 rfl rfl rfl rfl rfl rfl rfl rfl rfl) (hstl rfl rfl rfl rfl (Nlb rfl) (lq2 rfl rfl rfl) (qp rfl (qn (kq6 rfl rfl rfl rfl rfl rfl) (kq3 rfl rfl rfl) (er (pq2 rfl rfl (zq2 rfl rfl (pq2 rfl rfl (zq2 rfl rfl (pq2 rfl rfl (zq3 rfl rfl rfl (qp rfl ?_))))))))))))
   refine qp rfl (zq5 rfl rfl rfl rfl rfl (pq2 rfl rfl (zq1 rfl (pq2 rfl rfl (qn (kq1 rfl) kn (eret (fqr rfl ?_)))))))
   first | exact ⟨rfl,Ext.refl _⟩ | exact ⟨rfl,hE1⟩ | exact ⟨rfl,hE.trans (hE4.trans hE5)⟩ | (exfalso;simp_all)
  refine pq3 rfl rfl rfl (qn (kq4 rfl rfl rfl rfl) (kq2 rfl rfl) (er (hlda rfl rfl (lq2 rfl rfl rfl) (hcall rfl rfl rfl (Dual_ok _ (hQ.e (hE1.trans hE2)) (hD.e (hE1.trans hE2)) _ zd d1 d2) ?_))))
  rintro _ S3 ⟨rfl,hE3⟩
  rw [dualC_twice k1 k2]
  have hE:=hE1.trans (hE2.trans hE3)
  refine pq3 rfl rfl rfl (hal (dq9 rfl rfl rfl rfl rfl rfl rfl rfl rfl) (hstl rfl rfl rfl rfl (Nlb rfl) (lq2 rfl rfl rfl) (qp rfl (qn (kq6 rfl rfl rfl rfl rfl rfl) (kq3 rfl rfl rfl) (er (pq2 rfl rfl (qg rfl (qp rfl (qg rfl (qp rfl (qb ?_)))))))))))
  rintro (_ | _) h4
  ·refine pq2 rfl rfl (zq2 rfl rfl (pq2 rfl rfl (zq3 rfl rfl rfl (pq2 rfl rfl (zq5 rfl rfl rfl rfl rfl (pq2 rfl rfl (zq1 rfl (pq2 rfl rfl (qn (kq1 rfl) kn (eret ?_))))))))))
   refine fqr rfl ?_
   first | exact ⟨rfl,Ext.refl _⟩ | exact ⟨rfl,hE1⟩ | exact ⟨rfl,hE.trans (hE4.trans hE5)⟩ | (exfalso;simp_all)
  refine pq2 rfl rfl (qg rfl (qp rfl (qg rfl (qp rfl (qb ?_)))))
  rintro (_ | _) h5
  ·refine pq2 rfl rfl (zq3 rfl rfl rfl (pq2 rfl rfl (zq5 rfl rfl rfl rfl rfl (pq2 rfl rfl (zq1 rfl (pq2 rfl rfl (qn (kq1 rfl) kn (eret (fqr rfl ?_)))))))))
   first | exact ⟨rfl,Ext.refl _⟩ | exact ⟨rfl,hE1⟩ | exact ⟨rfl,hE.trans (hE4.trans hE5)⟩ | (exfalso;simp_all)
  refine pq2 rfl rfl (qg rfl (hlda rfl rfl (lq2 rfl rfl rfl) (qg rfl (hlda rfl rfl (lq2 rfl rfl rfl) (qg rfl (hcall rfl rfl rfl (ExactCore_c _ c z.z) ?_))))))
  rintro _ _ ⟨rfl,rfl⟩
  refine qb ?_
  rintro (_ | _) h6
  ·refine pq2 rfl rfl (zq5 rfl rfl rfl rfl rfl (pq2 rfl rfl (zq1 rfl (pq2 rfl rfl (qn (kq1 rfl) kn (eret (fqr rfl ?_)))))))
   first | exact ⟨rfl,Ext.refl _⟩ | exact ⟨rfl,hE1⟩ | exact ⟨rfl,hE.trans (hE4.trans hE5)⟩ | (exfalso;simp_all)
  refine pq2 rfl rfl (qg rfl (hlda rfl rfl (lq2 rfl rfl rfl) (qg rfl (hcall rfl rfl rfl (Check_ok _ (hQ.e hE) c z k1) ?_))))
  rintro _ S4 ⟨rfl,hE4⟩
  refine qg rfl (hlda rfl rfl (lq2 rfl rfl rfl) (qg rfl (hcall rfl rfl rfl (Check_ok _ (hQ.e (hE.trans hE4)) _ zd d1) ?_)))
  rintro _ S5 ⟨rfl,hE5⟩
  rw [type_dual k1 k2]
  refine qg rfl (qp rfl (qb ?_))
  rintro (_ | _) h7
  ·refine pq2 rfl rfl (zq1 rfl (pq2 rfl rfl (qn (kq1 rfl) kn (eret (fqr rfl ?_)))))
   first | exact ⟨rfl,Ext.refl _⟩ | exact ⟨rfl,hE1⟩ | exact ⟨rfl,hE.trans (hE4.trans hE5)⟩ | (exfalso;simp_all)
  refine pq2 rfl rfl (qg rfl (hcall rfl rfl rfl (awake_c _ (hQ.e (hE.trans (hE4.trans hE5))) (hD.e (hE.trans (hE4.trans hE5)))) ?_))
  rintro _ _ ⟨rfl,rfl⟩
  refine pq2 rfl rfl (qn (kq1 rfl) kn (eret (fqr rfl ?_)))
  first | exact ⟨rfl,Ext.refl _⟩ | exact ⟨rfl,hE1⟩ | exact ⟨rfl,hE.trans (hE4.trans hE5)⟩ | (exfalso;simp_all)
 exact absurd h2 (by decide)
theorem DualTwice_c (s:Sg) (hQ:QOK s) (hD:DQ s) (c:Core) (hz:c.sz ≤ 2 ^ 30):HC p N5_ [.agg (Core.cs c)] s (fun r s'=>r=[B true] ∧ Ext s s'):=by
 have z:=SzD.of hz
 by_cases h:coreOk c=true ∧ isPureC c=true
 ·exact DualTwice_ok s hQ hD c hz z h.1 h.2
 exact DualTwice_no s hQ hD c hz z h
end Go.Sim.Kd
