/-
  A part of a proof: see the last text of this claim.
-/
import Derived.Test.YtfejjomhjeioaaaGreatDoorPH
set_option linter.unusedVariables false
set_option linter.unusedSimpArgs false
namespace Go.Sim.Kd
open Go Go.Sim
theorem IFNode_l (l:List Node) (g:Node → Bool) (f:Nat) (H:∀ a ∈ l,∀ s,HC p f [.agg a.cs] s (fun r s'=>r=[B (g a)] ∧ s'=s)) (i:Nat) (hi:i ≤ l.length) (hs:l.length ≤ 2 ^ 40) {n:Nat} {v:Nat → Bool} {D:List (Nat × List AV)} {S:Sg} {Q:Ex → Fr → Prop}
 (hX:∀ j,(l.drop i).any g=false → Q (.exit 0) ⟨upd (upd (upd (upd (upd ((fun _=>none)) 9 (some (.val (B false)))) 8 (some (.val (I j)))) 7 (some (.val (I (l.map Node.enc).length)))) 1 (some (.val (.fn f [] [])))) 0 (some (.val (SL 5 (l.map Node.enc)))),(fun _=>none),n,v,D,S⟩) (hR:∀ k:Int,0 ≤ k → (l.drop i).any g=true → Q .ret ⟨upd ((fun _=>none)) 4 (some (.val (I k))),(fun _=>none),n,v,D,S⟩):EX (callL p) (.loop F149_l1) ⟨upd (upd (upd (upd ((fun _=>none)) 8 (some (.val (I i)))) 7 (some (.val (I (l.map Node.enc).length)))) 1 (some (.val (.fn f [] [])))) 0 (some (.val (SL 5 (l.map Node.enc)))),(fun _=>none),n,v,D,S⟩ Q:=by
 refine eloop (er (qp J (qb ?_)))
 rintro (_ | _) h1
 ·refine qn (kq5 J) kn (eseq (ecF J (eexit (sqx ?_))))
  exact hX _ (by rw [List.drop_eq_nil_of_le (by simp at h1 ⊢;omega)];rfl)
 refine qn (kq5 J) kn (eseq (ecT J (eskip (sqn (eseq (eblock (er (pq2 J (qn (kq5 J) kn (er (pq3 J ?_)))))))))))
 have hlt:i < l.length:=by simpa using h1
 obtain ⟨a,ha⟩:=get_of_lt hlt
 have hd:=drop_cons ha
 refine hia (y:=.agg a.cs) rfl rfl (by omega) (by simp [ha,Node.enc_eq]) rfl (hlda rfl rfl (lc rfl (lc rfl (lc rfl (lc rfl (lc rfl (ln rfl)))))) (hcall rfl rfl rfl (H a (Lmg ha) _) ?_))
 rintro _ _ ⟨rfl,rfl⟩
 refine qb ?_
 rintro (_ | _) h2
 ·refine qn (kq6 J) kn (ecF J (eskip (bqn (sqn (ereg (hadd J J (i64w (by omega)) (qp J (qk (kq4 J) kn ?_))))))))
  exact IFNode_l l g f H (i + 1) (by omega) hs (fun j h=>hX j (by rw [hd];simp_all)) (fun k hk h=>hR k hk (by rw [hd];simp_all))
 refine qn (kq6 J) kn (ecT J (er (pq2 J (qn (kq1 J) kn (eret (bqr (sqr ?_)))))))
 exact hR i (by omega) (by rw [hd];simp_all)
termination_by l.length - i
decreasing_by all_goals omega
theorem IFNode_c (l:List Node) (g:Node → Bool) (f:Nat) (H:∀ a ∈ l,∀ s,HC p f [.agg a.cs] s (fun r s'=>r=[B (g a)] ∧ s'=s)) (hs:l.length ≤ 2 ^ 40) (s:Sg):HC p N149_ [SL 5 (l.map Node.enc),.fn f [] []] s (fun r s'=>∃ k:Int,r=[I k] ∧ decide (0 ≤ k)=l.any g ∧ s'=s):=by
 refine hcf J f149_ J ?_
 simp only [chainOf]
 refine er (qp J (qn (kq2 J) kn (eseq (er (pq3 J (qn (kq4 J) kn (eblock ?_)))))))
 refine IFNode_l l g f H 0 (by omega) hs ?_ ?_
 ·intro j ha
  refine bqx (sqn (er (qp J (qn (kq1 J) kn (eret (fqr J ?_))))))
  refine ⟨-1,J,?_,J⟩
  rw [List.drop_zero] at ha
  rw [ha]
  rfl
 intro k hk ha
 refine bqr (sqr (fqr J ?_))
 refine ⟨k,J,?_,J⟩
 rw [List.drop_zero] at ha
 rw [ha,decide_eq_true hk]
theorem CFNode_c (l:List Node) (g:Node → Bool) (f:Nat) (H:∀ a ∈ l,∀ s,HC p f [.agg a.cs] s (fun r s'=>r=[B (g a)] ∧ s'=s)) (hs:l.length ≤ 2 ^ 40) (s:Sg):HC p N115_ [SL 5 (l.map Node.enc),.fn f [] []] s (fun r s'=>r=[B (l.any g)] ∧ s'=s):=by
 refine hcf J f115_ J ?_
 simp only [chainOf]
 refine er (qp J (qn (kq2 J) kn (er (pq2 J (hcall J J J (IFNode_c l g f H hs _) ?_)))))
 rintro _ _ ⟨k,rfl,hk,rfl⟩
 refine pq2 J (qn (kq1 J) kn (eret (fqr J ?_)))
 refine ⟨congrArg (fun x=>[B x]) ?_,J⟩
 exact hk
theorem IFBranch_l (l:List Br) (g:Br → Bool) (f:Nat) (H:∀ a ∈ l,∀ s,HC p f [.agg (ints a.vars :: bools a.co :: a.body.cs)] s (fun r s'=>r=[B (g a)] ∧ s'=s)) (i:Nat) (hi:i ≤ l.length) (hs:l.length ≤ 2 ^ 40) {n:Nat} {v:Nat → Bool} {D:List (Nat × List AV)} {S:Sg} {Q:Ex → Fr → Prop}
 (hX:∀ j,(l.drop i).any g=false → Q (.exit 0) ⟨upd (upd (upd (upd (upd ((fun _=>none)) 9 (some (.val (B false)))) 8 (some (.val (I j)))) 7 (some (.val (I (l.map Br.enc).length)))) 1 (some (.val (.fn f [] [])))) 0 (some (.val (SL 7 (l.map Br.enc)))),(fun _=>none),n,v,D,S⟩) (hR:∀ k:Int,0 ≤ k → (l.drop i).any g=true → Q .ret ⟨upd ((fun _=>none)) 4 (some (.val (I k))),(fun _=>none),n,v,D,S⟩):EX (callL p) (.loop F150_l1) ⟨upd (upd (upd (upd ((fun _=>none)) 8 (some (.val (I i)))) 7 (some (.val (I (l.map Br.enc).length)))) 1 (some (.val (.fn f [] [])))) 0 (some (.val (SL 7 (l.map Br.enc)))),(fun _=>none),n,v,D,S⟩ Q:=by
 refine eloop (er (qp J (qb ?_)))
 rintro (_ | _) h1
 ·refine qn (kq5 J) kn (eseq (ecF J (eexit (sqx ?_))))
  exact hX _ (by rw [List.drop_eq_nil_of_le (by simp at h1 ⊢;omega)];rfl)
 refine qn (kq5 J) kn (eseq (ecT J (eskip (sqn (eseq (eblock (er (pq2 J (qn (kq5 J) kn (er (pq3 J ?_)))))))))))
 have hlt:i < l.length:=by simpa using h1
 obtain ⟨a,ha⟩:=get_of_lt hlt
 have hd:=drop_cons ha
 refine hia (y:=.agg (ints a.vars :: bools a.co :: a.body.cs)) rfl rfl (by omega) (by simp [ha,Br.enc_eq]) rfl (hlda rfl rfl (lc rfl (lc rfl (lc rfl (lc rfl (lc rfl (lc rfl (lc rfl (ln rfl)))))))) (hcall rfl rfl rfl (H a (Lmg ha) _) ?_))
 rintro _ _ ⟨rfl,rfl⟩
 refine qb ?_
 rintro (_ | _) h2
 ·refine qn (kq6 J) kn (ecF J (eskip (bqn (sqn (ereg (hadd J J (i64w (by omega)) (qp J (qk (kq4 J) kn ?_))))))))
  exact IFBranch_l l g f H (i + 1) (by omega) hs (fun j h=>hX j (by rw [hd];simp_all)) (fun k hk h=>hR k hk (by rw [hd];simp_all))
 refine qn (kq6 J) kn (ecT J (er (pq2 J (qn (kq1 J) kn (eret (bqr (sqr ?_)))))))
 exact hR i (by omega) (by rw [hd];simp_all)
termination_by l.length - i
decreasing_by all_goals omega
theorem IFBranch_c (l:List Br) (g:Br → Bool) (f:Nat) (H:∀ a ∈ l,∀ s,HC p f [.agg (ints a.vars :: bools a.co :: a.body.cs)] s (fun r s'=>r=[B (g a)] ∧ s'=s)) (hs:l.length ≤ 2 ^ 40) (s:Sg):HC p N150_ [SL 7 (l.map Br.enc),.fn f [] []] s (fun r s'=>∃ k:Int,r=[I k] ∧ decide (0 ≤ k)=l.any g ∧ s'=s):=by
 refine hcf J f150_ J ?_
 simp only [chainOf]
 refine er (qp J (qn (kq2 J) kn (eseq (er (pq3 J (qn (kq4 J) kn (eblock ?_)))))))
 refine IFBranch_l l g f H 0 (by omega) hs ?_ ?_
 ·intro j ha
  refine bqx (sqn (er (qp J (qn (kq1 J) kn (eret (fqr J ?_))))))
  refine ⟨-1,J,?_,J⟩
  rw [List.drop_zero] at ha
  rw [ha]
  rfl
 intro k hk ha
 refine bqr (sqr (fqr J ?_))
 refine ⟨k,J,?_,J⟩
 rw [List.drop_zero] at ha
 rw [ha,decide_eq_true hk]
theorem CFBranch_c (l:List Br) (g:Br → Bool) (f:Nat) (H:∀ a ∈ l,∀ s,HC p f [.agg (ints a.vars :: bools a.co :: a.body.cs)] s (fun r s'=>r=[B (g a)] ∧ s'=s)) (hs:l.length ≤ 2 ^ 40) (s:Sg):HC p N117_ [SL 7 (l.map Br.enc),.fn f [] []] s (fun r s'=>r=[B (l.any g)] ∧ s'=s):=by
 refine hcf J f117_ J ?_
 simp only [chainOf]
 refine er (qp J (qn (kq2 J) kn (er (pq2 J (hcall J J J (IFBranch_c l g f H hs _) ?_)))))
 rintro _ _ ⟨k,rfl,hk,rfl⟩
 refine pq2 J (qn (kq1 J) kn (eret (fqr J ?_)))
 refine ⟨congrArg (fun x=>[B x]) ?_,J⟩
 exact hk
theorem IFArg_l (l:List Arg) (g:Arg → Bool) (f:Nat) (H:∀ a ∈ l,∀ s,HC p f [.agg [I a.ty,B a.co]] s (fun r s'=>r=[B (g a)] ∧ s'=s)) (i:Nat) (hi:i ≤ l.length) (hs:l.length ≤ 2 ^ 40) {n:Nat} {v:Nat → Bool} {D:List (Nat × List AV)} {S:Sg} {Q:Ex → Fr → Prop}
 (hX:∀ j,(l.drop i).any g=false → Q (.exit 0) ⟨upd (upd (upd (upd (upd ((fun _=>none)) 9 (some (.val (B false)))) 8 (some (.val (I j)))) 7 (some (.val (I (l.map Arg.enc).length)))) 1 (some (.val (.fn f [] [])))) 0 (some (.val (SL 2 (l.map Arg.enc)))),(fun _=>none),n,v,D,S⟩) (hR:∀ k:Int,0 ≤ k → (l.drop i).any g=true → Q .ret ⟨upd ((fun _=>none)) 4 (some (.val (I k))),(fun _=>none),n,v,D,S⟩):EX (callL p) (.loop F148_l1) ⟨upd (upd (upd (upd ((fun _=>none)) 8 (some (.val (I i)))) 7 (some (.val (I (l.map Arg.enc).length)))) 1 (some (.val (.fn f [] [])))) 0 (some (.val (SL 2 (l.map Arg.enc)))),(fun _=>none),n,v,D,S⟩ Q:=by
 refine eloop (er (qp J (qb ?_)))
 rintro (_ | _) h1
 ·refine qn (kq5 J) kn (eseq (ecF J (eexit (sqx ?_))))
  exact hX _ (by rw [List.drop_eq_nil_of_le (by simp at h1 ⊢;omega)];rfl)
 refine qn (kq5 J) kn (eseq (ecT J (eskip (sqn (eseq (eblock (er (pq2 J (qn (kq5 J) kn (er (pq3 J ?_)))))))))))
 have hlt:i < l.length:=by simpa using h1
 obtain ⟨a,ha⟩:=get_of_lt hlt
 have hd:=drop_cons ha
 refine hia (y:=.agg [I a.ty,B a.co]) rfl rfl (by omega) (by simp [ha,Arg.enc]) rfl (hlda rfl rfl (lc rfl (lc rfl (ln rfl))) (hcall rfl rfl rfl (H a (Lmg ha) _) ?_))
 rintro _ _ ⟨rfl,rfl⟩
 refine qb ?_
 rintro (_ | _) h2
 ·refine qn (kq6 J) kn (ecF J (eskip (bqn (sqn (ereg (hadd J J (i64w (by omega)) (qp J (qk (kq4 J) kn ?_))))))))
  exact IFArg_l l g f H (i + 1) (by omega) hs (fun j h=>hX j (by rw [hd];simp_all)) (fun k hk h=>hR k hk (by rw [hd];simp_all))
 refine qn (kq6 J) kn (ecT J (er (pq2 J (qn (kq1 J) kn (eret (bqr (sqr ?_)))))))
 exact hR i (by omega) (by rw [hd];simp_all)
termination_by l.length - i
decreasing_by all_goals omega
theorem IFArg_c (l:List Arg) (g:Arg → Bool) (f:Nat) (H:∀ a ∈ l,∀ s,HC p f [.agg [I a.ty,B a.co]] s (fun r s'=>r=[B (g a)] ∧ s'=s)) (hs:l.length ≤ 2 ^ 40) (s:Sg):HC p N148_ [SL 2 (l.map Arg.enc),.fn f [] []] s (fun r s'=>∃ k:Int,r=[I k] ∧ decide (0 ≤ k)=l.any g ∧ s'=s):=by
 refine hcf J f148_ J ?_
 simp only [chainOf]
 refine er (qp J (qn (kq2 J) kn (eseq (er (pq3 J (qn (kq4 J) kn (eblock ?_)))))))
 refine IFArg_l l g f H 0 (by omega) hs ?_ ?_
 ·intro j ha
  refine bqx (sqn (er (qp J (qn (kq1 J) kn (eret (fqr J ?_))))))
  refine ⟨-1,J,?_,J⟩
  rw [List.drop_zero] at ha
  rw [ha]
  rfl
 intro k hk ha
 refine bqr (sqr (fqr J ?_))
 refine ⟨k,J,?_,J⟩
 rw [List.drop_zero] at ha
 rw [ha,decide_eq_true hk]
theorem CFArg_c (l:List Arg) (g:Arg → Bool) (f:Nat) (H:∀ a ∈ l,∀ s,HC p f [.agg [I a.ty,B a.co]] s (fun r s'=>r=[B (g a)] ∧ s'=s)) (hs:l.length ≤ 2 ^ 40) (s:Sg):HC p N113_ [SL 2 (l.map Arg.enc),.fn f [] []] s (fun r s'=>r=[B (l.any g)] ∧ s'=s):=by
 refine hcf J f113_ J ?_
 simp only [chainOf]
 refine er (qp J (qn (kq2 J) kn (er (pq2 J (hcall J J J (IFArg_c l g f H hs _) ?_)))))
 rintro _ _ ⟨k,rfl,hk,rfl⟩
 refine pq2 J (qn (kq1 J) kn (eret (fqr J ?_)))
 refine ⟨congrArg (fun x=>[B x]) ?_,J⟩
 exact hk
theorem typed1_c (s:Sg) (a:Arg):HC p N114_ [.agg [I a.ty,B a.co]] s (fun r s'=>r=[B (decide (a.ty=0))] ∧ s'=s):=by
 refine hcf J f114_ J ?_
 simp only [chainOf]
 refine er (hbox (dc dn J) J (lq2 J) (qp J (qn (kq1 J) (kq1 J) (er (pq4 J (qn (kq1 J) kn (eret (fqr J ?_))))))))
 exact ⟨rfl,rfl⟩
def typedA (l:List Arg):Bool:=!(l.any fun a=>decide (a.ty=0))
theorem typed_c (s:Sg) (l:List Arg) (hs:l.length ≤ 2 ^ 40):HC p N64_ [encArgs l] s (fun r s'=>r=[B (typedA l)] ∧ s'=s):=by
 refine hcf J f64_ J ?_
 simp only [chainOf]
 refine er (qp J (qn (kq1 J) kn (er (qp J (hcall J J J (CFArg_c l _ _ (fun a _ s=>typed1_c s a) hs _) ?_)))))
 rintro _ _ ⟨rfl,rfl⟩
 refine pq2 J (qn (kq1 J) kn (eret (fqr J ?_)))
 exact ⟨rfl,rfl⟩
mutual
def pureN:Node → Bool
 | .mk op n ty args brs=>if (op=3 ∨ op=7 ∨ op=9) ∧ ty=0 then false
   else if op=10 ∨ op=11 ∨ op=1 then false
   else if op=12 then decide (((args.map Node.op)[0]?).getD 0=1) && ((pureNs args)[1]?).getD false
   else if op=14 then decide (((args.map Node.op)[0]?).getD 0=1)
   else (pureNs args).all id && (pureBs brs).all id
def pureNs:List Node → List Bool
 | []=>[]
 | a :: as=>pureN a :: pureNs as
def pureB:Br → Bool
 | .mk _ _ body=>pureN body
def pureBs:List Br → List Bool
 | []=>[]
 | a :: as=>pureB a :: pureBs as
end
theorem pureNs_eq (l:List Node):pureNs l=l.map pureN:=by induction l with
 | nil=>rfl
 | cons a l ih=>simp [pureNs,ih]
theorem pureB_eq (b:Br):pureB b=pureN b.body:=by cases b;rfl
theorem pureBs_eq (l:List Br):pureBs l=l.map fun b=>pureN b.body:=by induction l with
 | nil=>rfl
 | cons a l ih=>simp [pureBs,ih,pureB_eq]
theorem pureN_eq (a:Node):pureN a=if (a.op=3 ∨ a.op=7 ∨ a.op=9) ∧ a.ty=0 then false
 else if a.op=10 ∨ a.op=11 ∨ a.op=1 then false
 else if a.op=12 then decide (((a.args.map Node.op)[0]?).getD 0=1) && ((a.args.map pureN)[1]?).getD false
 else if a.op=14 then decide (((a.args.map Node.op)[0]?).getD 0=1)
 else !(a.args.any fun b=>!pureN b) && !(a.brs.any fun b=>!pureN b.body):=by
 cases a with
 | mk op n ty args brs =>
   simp only [pureN,pureNs_eq,pureBs_eq,Node.op,Node.ty,Node.args,Node.brs]
   have e1:(args.map pureN).all id=!(args.any fun b=>!pureN b):=by
    induction args with
    | nil=>rfl
    | cons b l ih=>simp only [List.map_cons,List.all_cons,List.any_cons,ih];cases pureN b <;> simp
   have e2:(brs.map fun b=>pureN b.body).all id=!(brs.any fun b=>!pureN b.body):=by
    induction brs with
    | nil=>rfl
    | cons b l ih=>simp only [List.map_cons,List.all_cons,List.any_cons,ih];cases pureN b.body <;> simp
   rw [e1,e2]
   first | rfl | (repeat' split) <;> simp_all
theorem vNs_len2 {ds:List Decl} {fs:List CFun}:∀ {l:List Node} {ws:List Int} {X A:Int → Bool},vNs ds fs l ws X A=true → l.length=ws.length
 | [],[],_,_,_=>rfl
 | [],_ :: _,_,_,h=>by simp [vNs] at h
 | _ :: _,[],_,_,h=>by simp [vNs] at h
 | a :: l,w :: ws,X,A,h=>by
   simp only [vNs,Bae] at h
   simp [vNs_len2 h.2]
theorem vBs_mem {ds:List Decl} {fs:List CFun}:∀ {l:List Br} {xs:List Xtor} {X A:Int → Bool},vBs ds fs l xs X A=true → ∀ b ∈ l,∃ X' A',vN ds fs b.body X' A'=true
 | [],_,_,_,_,b,hb=>by cases hb
 | a :: l,[],_,_,h,_,_=>by simp [vBs] at h
 | a :: l,x :: xs,X,A,h,b,hb=>by
   simp only [vBs,Bae] at h
   cases hb with
   | head =>
     have h1:=h.1
     rw [vB_eq] at h1
     simp only [Bae] at h1
     exact ⟨_,_,h1.2⟩
   | tail _ hb=>exact vBs_mem h.2 b hb
theorem vN_parts {ds:List Decl} {fs:List CFun} {a:Node} {X A:Int → Bool} (h:vN ds fs a X A=true):(∀ b ∈ a.args,∃ X' A',vN ds fs b X' A'=true) ∧ (∀ b ∈ a.brs,∃ X' A',vN ds fs b.body X' A'=true) ∧
 ∃ want xs,headOf ds fs a.op a.n a.ty=some (want,xs) ∧ a.args.length=want.length:=by
 rw [vN_eq] at h
 split at h
 ·cases h
 rename_i want xs hh
 simp only [Bae] at h
 exact ⟨fun b hb=>⟨_,_,vNs_mem h.1.2 b hb⟩,vBs_mem h.2,want,xs,hh,vNs_len2 h.1.2⟩
theorem len12 {ds:List Decl} {fs:List CFun} {a:Node} {X A:Int → Bool} (h:vN ds fs a X A=true) (e:a.op=12):a.args.length=2:=by
 obtain ⟨_,_,want,xs,hh,hl⟩:=vN_parts h
 rw [e] at hh
 simp [headOf] at hh
 rw [hl,← hh.2.1];rfl
theorem len14 {ds:List Decl} {fs:List CFun} {a:Node} {X A:Int → Bool} (h:vN ds fs a X A=true) (e:a.op=14):a.args.length=1:=by
 obtain ⟨_,_,want,xs,hh,hl⟩:=vN_parts h
 rw [e] at hh
 simp [headOf] at hh
 rw [hl,← hh.2.1];rfl
def PureC (b:Node):Prop:=∀ s,HC p N65_ [.agg b.cs] s (fun r s'=>r=[B (pureN b)] ∧ s'=s)
theorem pure1_c (b:Node) (H:PureC b) (s:Sg):HC p N116_ [.agg b.cs] s (fun r s'=>r=[B (!pureN b)] ∧ s'=s):=by
 refine hcf J f116_ J ?_
 simp only [chainOf]
 refine er (hbox (dc dn J) J (lq5 J) (qp J (qn (kq1 J) (kq1 J) (er (hlda J J (lq5 J) (hcall J J J (H _) ?_))))))
 rintro _ _ ⟨rfl,rfl⟩
 refine pq2 J (qn (kq1 J) kn (eret (fqr J ?_)))
 exact ⟨rfl,rfl⟩
theorem pure2_c (b:Br) (H:PureC b.body) (s:Sg):HC p N118_ [.agg (ints b.vars :: bools b.co :: b.body.cs)] s (fun r s'=>r=[B (!pureN b.body)] ∧ s'=s):=by
 refine hcf J f118_ J ?_
 simp only [chainOf]
 refine er (hbox (dc dn J) J (lq7 J) (qp J (qn (kq1 J) (kq1 J) (er (qp J (hlda J J (lq5 J) (hcall J J J (H _) ?_)))))))
 rintro _ _ ⟨rfl,rfl⟩
 refine pq2 J (qn (kq1 J) kn (eret (fqr J ?_)))
 exact ⟨rfl,rfl⟩
theorem pure_c0 (ds:List Decl) (fs:List CFun) (a:Node) {X A:Int → Bool} (hv:vN ds fs a X A=true) (hz:a.sz ≤ 2 ^ 40) (H1:∀ b ∈ a.args,PureC b) (H2:∀ b ∈ a.brs,PureC b.body) (s:Sg):HC p N65_ [.agg a.cs] s (fun r s'=>r=[B (pureN a)] ∧ s'=s):=by
 refine hcf J f65_ J ?_
 simp only [chainOf]
 refine er (hbox (dc dn J) J (lq5 J) (qp J (qn (kq1 J) (kq1 J) (eseq (er (pq2 J (qn (kq2 J) (kq1 J) (eblock (eseq (er (qp J (qb ?_))))))))))))
 rintro (_ | _) h1
 refine qp J (qn (kq3 J) (kq1 J) (ecF J (er (qp J (qb ?_)))))
 rintro (_ | _) h2
 refine qp J (qn (kq3 J) (kq1 J) (ecF J (ereg (qp J (qb ?_)))))
 rintro (_ | _) h3
 refine qp J (qn (kq3 J) (kq1 J) (ecF J (eseq (er (qp J (qb ?_))))))
 rintro (_ | _) h4
 refine qp J (qn (kq3 J) (kq1 J) (ecF J (er (qp J (qb ?_)))))
 rintro (_ | _) h5
 refine qp J (qn (kq3 J) (kq1 J) (ecF J (ereg (qp J (qb ?_)))))
 rintro (_ | _) h6
 refine qp J (qn (kq3 J) (kq1 J) (ecF J (er (qp J (qb ?_)))))
 rintro (_ | _) h7
 refine qp J (qn (kq3 J) (kq1 J) (ecF J (er (qp J (qb ?_)))))
 rintro (_ | _) h8
 refine qp rfl (qk (kc rfl (kc rfl kn)) (kc rfl kn) (sqn (ecF rfl (eskip (bqn (sqn (eseq (ereg (qp rfl (qp rfl (hcall rfl rfl rfl (CFNode_c a.args (fun b=>!pureN b) _ (fun b hb s=>pure1_c b (H1 b hb) s) (by have:=a.sz_args;omega) _) ?_)))))))))))
 rintro _ _ ⟨rfl,rfl⟩
 refine qb ?_
 rintro (_ | _) h9
 refine qp rfl (qp rfl (qg rfl (qp rfl (qg rfl (qp rfl (qg rfl (hcall rfl rfl rfl (CFBranch_c a.brs (fun b=>!pureN b.body) _ (fun b hb s=>pure2_c b (H2 b hb) s) (by have:=a.sz_brs;omega) _) ?_)))))))
 rintro _ _ ⟨rfl,rfl⟩
 refine qg J (pq3 J (qn (kq1 J) kn (eret (fqr J ?_))))
 rotate_left
 refine pq2 J (zq4 J (pq2 J (qn (kq1 J) kn (eret (fqr J ?_)))))
 rotate_left
 refine qp J (qn (kq2 J) (kq1 J) (ecT J (er (pq2 J ?_))))
 have hl1:a.args.length=1:=len14 hv (by simp_all)
 obtain ⟨x,hx⟩:=get_of_lt (l:=a.args) (i:=0) (by omega)
 refine hia (y:=.agg x.cs) rfl rfl (by decide) (by simp [hx,Node.enc_eq]) rfl (qp rfl (qp rfl (qp rfl (qp rfl (qk (kc rfl kn) kn (sqn (eret (bqr (sqr (fqr rfl ?_))))))))))
 rotate_left
 refine qp J (qn (kq3 J) (kq1 J) (ecT J (er (pq2 J ?_))))
 have hl2:a.args.length=2:=by first | exact len12 hv (by simp_all) | omega
 obtain ⟨x,hx⟩:=get_of_lt (l:=a.args) (i:=0) (by omega)
 obtain ⟨y,hy⟩:=get_of_lt (l:=a.args) (i:=1) (by omega)
 refine hia (y:=.agg x.cs) rfl rfl (by decide) (by simp [hx,Node.enc_eq]) rfl (qp rfl (qp rfl (qp rfl (qb ?_))))
 rintro (_ | _) h10
 refine qp J (zq5 J (pq2 J (qn (kq1 J) kn (eret (bqr (sqr (fqr J ?_)))))))
 rotate_left
 refine qp rfl (qg rfl (qp rfl (qg rfl (qp rfl (qg rfl (hia (y:=.agg y.cs) rfl rfl (by decide) (by simp [hy,Node.enc_eq]) rfl (qg rfl (hlda rfl rfl (lc rfl (lc rfl (lc rfl (lc rfl (lc rfl (ln rfl)))))) (qg rfl (hcall rfl rfl rfl (H1 y (Lmg hy) _) ?_))))))))))
 rintro _ _ ⟨rfl,rfl⟩
 refine pq2 J (qn (kq1 J) kn (eret (bqr (sqr (fqr J ?_)))))
 rotate_left
 refine qp J (qn (kq3 J) (kq1 J) (ecT J (er (qp J (qn (kq1 J) kn (eret (bqr (sqr (fqr J ?_)))))))))
 rotate_left
 refine qp J (qn (kq3 J) (kq1 J) (ecT J (eskip (sqn (ecT J (er (qp J (qn (kq1 J) kn (eret (bqr (sqr (fqr J ?_))))))))))))
 rotate_left
 refine qp J (qn (kq3 J) (kq1 J) (ecT J (eskip (sqn (ecT J (er (qp J (qn (kq1 J) kn (eret (bqr (sqr (fqr J ?_))))))))))))
 rotate_left
 refine qp J (qn (kq3 J) (kq1 J) (ecT J (er (pq3 J (qb ?_)))))
 rintro (_ | _) h11
 refine qk (kc rfl (kc rfl kn)) (kc rfl kn) (sqn (ecF rfl (eskip (bqn (sqn (eseq (ereg (qp rfl (qp rfl (hcall rfl rfl rfl (CFNode_c a.args (fun b=>!pureN b) _ (fun b hb s=>pure1_c b (H1 b hb) s) (by have:=a.sz_args;omega) _) ?_))))))))))
 rintro _ _ ⟨rfl,rfl⟩
 refine qb ?_
 rintro (_ | _) h12
 refine qp rfl (qp rfl (qg rfl (qp rfl (qg rfl (qp rfl (qg rfl (hcall rfl rfl rfl (CFBranch_c a.brs (fun b=>!pureN b.body) _ (fun b hb s=>pure2_c b (H2 b hb) s) (by have:=a.sz_brs;omega) _) ?_)))))))
 rintro _ _ ⟨rfl,rfl⟩
 refine qg J (pq3 J (qn (kq1 J) kn (eret (fqr J ?_))))
 rotate_left
 refine pq2 J (zq4 J (pq2 J (qn (kq1 J) kn (eret (fqr J ?_)))))
 rotate_left
 refine qn (kq2 J) (kq1 J) (ecT J (er (qp J (qn (kq1 J) kn (eret (bqr (sqr (fqr J ?_))))))))
 rotate_left
 refine qp J (qn (kq3 J) (kq1 J) (ecT J (eskip (sqn (ecT J (er (pq3 J (qb ?_))))))))
 rintro (_ | _) h13
 refine qk (kc rfl (kc rfl kn)) (kc rfl kn) (sqn (ecF rfl (eskip (bqn (sqn (eseq (ereg (qp rfl (qp rfl (hcall rfl rfl rfl (CFNode_c a.args (fun b=>!pureN b) _ (fun b hb s=>pure1_c b (H1 b hb) s) (by have:=a.sz_args;omega) _) ?_))))))))))
 rintro _ _ ⟨rfl,rfl⟩
 refine qb ?_
 rintro (_ | _) h14
 refine qp rfl (qp rfl (qg rfl (qp rfl (qg rfl (qp rfl (qg rfl (hcall rfl rfl rfl (CFBranch_c a.brs (fun b=>!pureN b.body) _ (fun b hb s=>pure2_c b (H2 b hb) s) (by have:=a.sz_brs;omega) _) ?_)))))))
 rintro _ _ ⟨rfl,rfl⟩
 refine qg J (pq3 J (qn (kq1 J) kn (eret (fqr J ?_))))
 rotate_left
 refine pq2 J (zq4 J (pq2 J (qn (kq1 J) kn (eret (fqr J ?_)))))
 rotate_left
 refine qn (kq2 J) (kq1 J) (ecT J (er (qp J (qn (kq1 J) kn (eret (bqr (sqr (fqr J ?_))))))))
 rotate_left
 refine qp J (qn (kq3 J) (kq1 J) (ecT J (eskip (sqn (ecT J (er (pq3 J (qb ?_))))))))
 rintro (_ | _) h15
 refine qk (kc rfl (kc rfl kn)) (kc rfl kn) (sqn (ecF rfl (eskip (bqn (sqn (eseq (ereg (qp rfl (qp rfl (hcall rfl rfl rfl (CFNode_c a.args (fun b=>!pureN b) _ (fun b hb s=>pure1_c b (H1 b hb) s) (by have:=a.sz_args;omega) _) ?_))))))))))
 rintro _ _ ⟨rfl,rfl⟩
 refine qb ?_
 rintro (_ | _) h16
 refine qp rfl (qp rfl (qg rfl (qp rfl (qg rfl (qp rfl (qg rfl (hcall rfl rfl rfl (CFBranch_c a.brs (fun b=>!pureN b.body) _ (fun b hb s=>pure2_c b (H2 b hb) s) (by have:=a.sz_brs;omega) _) ?_)))))))
 rintro _ _ ⟨rfl,rfl⟩
 refine qg J (pq3 J (qn (kq1 J) kn (eret (fqr J ?_))))
 rotate_left
 refine pq2 J (zq4 J (pq2 J (qn (kq1 J) kn (eret (fqr J ?_)))))
 rotate_left
 refine qn (kq2 J) (kq1 J) (ecT J (er (qp J (qn (kq1 J) kn (eret (bqr (sqr (fqr J ?_))))))))
 rotate_left
 all_goals
  refine ⟨congrArg (fun x=>[B x]) ?_,J⟩
  rw [pureN_eq a]
  simp_all [-List.any_eq_true,-List.any_eq_false]
theorem pure_c (ds:List Decl) (fs:List CFun) (a:Node):∀ {X A:Int → Bool},vN ds fs a X A=true → a.sz ≤ 2 ^ 40 → PureC a:=by
 induction a using Node.ind with
 | h a ih1 ih2 =>
   intro X A hv hz s
   obtain ⟨p1,p2,_⟩:=vN_parts hv
   exact pure_c0 ds fs a hv hz (fun b hb=>by obtain ⟨_,_,h⟩:=p1 b hb;exact ih1 b hb h (by have:=Node.sz_arg hb;omega)) (fun b hb=>by obtain ⟨_,_,h⟩:=p2 b hb;exact ih2 b hb h (by have:=Node.sz_br hb;have:=b.sz_body;omega)) s
def xtorsT (l:List Xtor):Bool:=l.all fun x=>typedA x.args
def funP (g:CFun):Bool:=typedA g.params && pureN g.body
def isPureC (c:Core):Bool:=(c.decls.all fun d=>xtorsT d.xtors) && c.funs.all funP && decide (((c.funs.map fun g=>g.params.length)[0]?).getD 0=0)
theorem iP_l2 (c:Core) (l:List Xtor) (hx:∀ x ∈ l,x.args.length ≤ 2 ^ 40) (i:Nat) (hi:i ≤ l.length) (hs:l.length ≤ 2 ^ 40) {x10 x11 x12:AV} {n:Nat} {v:Nat → Bool} {D:List (Nat × List AV)} {S:Sg} {Q:Ex → Fr → Prop}
 (hX:∀ j,xtorsT (l.drop i)=true → Q (.exit 2) ⟨upd (upd (upd (upd (upd (upd (upd (upd ((fun _=>none)) 20 (some (.val (B false)))) 19 (some (.val (I j)))) 18 (some (.val (I (l.map Xtor.enc).length)))) 17 (some (.val (.slice .none 2 (l.map Xtor.enc))))) 12 (some (.val x12))) 11 (some (.val x11))) 10 (some (.val x10))) 1 (some (.loc 1 0)),upd ((fun _=>none)) 1 (some (Core.cs c)),n,v,D,S⟩) (hR:xtorsT (l.drop i)=false → Q .ret ⟨upd ((fun _=>none)) 2 (some (.val (B false))),(fun _=>none),n,v,D,S⟩):EX (callL p) (.loop F20_l2) ⟨upd (upd (upd (upd (upd (upd (upd ((fun _=>none)) 19 (some (.val (I i)))) 18 (some (.val (I (l.map Xtor.enc).length)))) 17 (some (.val (.slice .none 2 (l.map Xtor.enc))))) 12 (some (.val x12))) 11 (some (.val x11))) 10 (some (.val x10))) 1 (some (.loc 1 0)),upd ((fun _=>none)) 1 (some (Core.cs c)),n,v,D,S⟩ Q:=by
 refine eloop (er (qp J (qb ?_)))
 rintro (_ | _) h1
 ·refine qn (kq8 J) (kq1 J) (eseq (ecF J (eexit (sqx ?_))))
  exact hX _ (by rw [List.drop_eq_nil_of_le (by simp at h1 ⊢;omega)];rfl)
 refine qn (kq8 J) (kq1 J) (eseq (ecT J (eskip (sqn (eseq (eblock (er ?_)))))))
 have hlt:i < l.length:=by simpa using h1
 obtain ⟨a,ha⟩:=get_of_lt hlt
 have hd:=drop_cons ha
 refine hia (y:=Xtor.enc a) rfl rfl (by omega) (by simp [ha]) rfl (hlda rfl rfl (lc rfl (lc rfl (ln rfl))) (hal (dc (dc (dc (dc (dc (dc (dc (dc (dc (dc dn rfl) rfl) rfl) rfl) rfl) rfl) rfl) rfl) rfl) rfl) (hstl rfl rfl rfl rfl (Nlb rfl) (lc rfl (lc rfl (ln rfl))) (qk (kc rfl (kc rfl (kc rfl (kc rfl (kc rfl (kc rfl (kc rfl (kc rfl kn)))))))) (kc rfl (kc rfl kn)) (sqn (eseq (ereg (qp rfl (qp rfl (hcall rfl rfl rfl (typed_c _ a.args (hx a (Lmg ha))) ?_))))))))))
 rintro _ _ ⟨rfl,rfl⟩
 refine qb ?_
 rintro (_ | _) h2
 ·refine qp J (qn (kq8 J) (kq1 J) (ecT J (er (qp J (qn (kq1 J) kn (eret (bqr (sqr ?_))))))))
  exact hR (by rw [hd];simp_all [xtorsT])
 refine qp J (qn (kq8 J) (kq1 J) (ecF J (eskip (bqn (sqn (ereg (hadd J J (i64w (by omega)) (qp J (qk (kq7 J) (kq1 J) ?_)))))))))
 exact iP_l2 c l hx (i + 1) (by omega) hs (fun j h=>hX j (by rw [hd];simp_all [xtorsT])) (fun h=>hR (by rw [hd];simp_all [xtorsT]))
termination_by l.length - i
decreasing_by all_goals omega
theorem iP_l1 (c:Core) (l:List Decl) (hx:∀ d ∈ l,∀ x ∈ d.xtors,x.args.length ≤ 2 ^ 40) (hxl:∀ d ∈ l,d.xtors.length ≤ 2 ^ 40) (i:Nat) (hi:i ≤ l.length) (hs:l.length ≤ 2 ^ 40) {n:Nat} {v:Nat → Bool} {D:List (Nat × List AV)} {S:Sg} {Q:Ex → Fr → Prop}
 (hX:∀ j,((l.drop i).all fun d=>xtorsT d.xtors)=true → Q (.exit 0) ⟨upd (upd (upd (upd (upd ((fun _=>none)) 13 (some (.val (B false)))) 12 (some (.val (I j)))) 11 (some (.val (I (l.map Decl.enc).length)))) 10 (some (.val (.slice .none 3 (l.map Decl.enc))))) 1 (some (.loc 1 0)),upd ((fun _=>none)) 1 (some (Core.cs c)),n,v,D,S⟩) (hR:((l.drop i).all fun d=>xtorsT d.xtors)=false → Q .ret ⟨upd ((fun _=>none)) 2 (some (.val (B false))),(fun _=>none),n,v,D,S⟩):EX (callL p) (.loop F20_l1) ⟨upd (upd (upd (upd ((fun _=>none)) 12 (some (.val (I i)))) 11 (some (.val (I (l.map Decl.enc).length)))) 10 (some (.val (.slice .none 3 (l.map Decl.enc))))) 1 (some (.loc 1 0)),upd ((fun _=>none)) 1 (some (Core.cs c)),n,v,D,S⟩ Q:=by
 refine eloop (er (qp J (qb ?_)))
 rintro (_ | _) h1
 ·refine qn (kq5 J) (kq1 J) (eseq (ecF J (eexit (sqx ?_))))
  exact hX _ (by rw [List.drop_eq_nil_of_le (by simp at h1 ⊢;omega)];rfl)
 refine qn (kq5 J) (kq1 J) (eseq (ecT J (eskip (sqn (eseq (eblock (er ?_)))))))
 have hlt:i < l.length:=by simpa using h1
 obtain ⟨a,ha⟩:=get_of_lt hlt
 have hd:=drop_cons ha
 refine hia (y:=Decl.enc a) rfl rfl (by omega) (by simp [ha]) rfl (hlda rfl rfl (lc rfl (lc rfl (lc rfl (ln rfl)))) (hal (dc (dc (dc (dc (dc (dc (dc dn rfl) rfl) rfl) rfl) rfl) rfl) rfl) (hstl rfl rfl rfl rfl (Nlb rfl) (lc rfl (lc rfl (lc rfl (ln rfl)))) (qk (kc rfl (kc rfl (kc rfl (kc rfl (kc rfl kn))))) (kc rfl (kc rfl kn)) (sqn (eseq (ereg (qp rfl (qp rfl (qp rfl (qp rfl (qk (kc rfl (kc rfl (kc rfl (kc rfl (kc rfl (kc rfl (kc rfl kn))))))) (kc rfl kn) (sqn (eblock ?_))))))))))))))
 refine iP_l2 c a.xtors (hx a (Lmg ha)) 0 (by omega) (hxl a (Lmg ha)) ?_ ?_
 ·intro j ha2
  refine bqx (bqn (sqn (ereg (hadd J J (i64w (by omega)) (qp J (qk (kq4 J) (kq1 J) ?_))))))
  exact iP_l1 c l hx hxl (i + 1) (by omega) hs (fun j h=>hX j (by rw [hd];simp_all)) (fun h=>hR (by rw [hd];simp_all))
 intro ha2
 refine bqr (bqr (sqr ?_))
 exact hR (by rw [hd];simp_all)
termination_by l.length - i
decreasing_by all_goals omega
theorem iP_l3 (c:Core) (l:List CFun) (hp:∀ g ∈ l,g.params.length ≤ 2 ^ 40) (H:∀ g ∈ l,PureC g.body) (i:Nat) (hi:i ≤ l.length) (hs:l.length ≤ 2 ^ 40) {n:Nat} {v:Nat → Bool} {D:List (Nat × List AV)} {S:Sg} {Q:Ex → Fr → Prop}
 (hX:∀ j,(l.drop i).all funP=true → Q (.exit 4) ⟨upd (upd (upd (upd (upd ((fun _=>none)) 33 (some (.val (B false)))) 32 (some (.val (I j)))) 31 (some (.val (I (l.map CFun.enc).length)))) 30 (some (.val (.slice .none 8 (l.map CFun.enc))))) 1 (some (.loc 1 0)),upd ((fun _=>none)) 1 (some (Core.cs c)),n,v,D,S⟩) (hR:(l.drop i).all funP=false → Q .ret ⟨upd ((fun _=>none)) 2 (some (.val (B false))),(fun _=>none),n,v,D,S⟩):EX (callL p) (.loop F20_l3) ⟨upd (upd (upd (upd ((fun _=>none)) 32 (some (.val (I i)))) 31 (some (.val (I (l.map CFun.enc).length)))) 30 (some (.val (.slice .none 8 (l.map CFun.enc))))) 1 (some (.loc 1 0)),upd ((fun _=>none)) 1 (some (Core.cs c)),n,v,D,S⟩ Q:=by
 refine eloop (er (qp J (qb ?_)))
 rintro (_ | _) h1
 ·refine qn (kq5 J) (kq1 J) (eseq (ecF J (eexit (sqx ?_))))
  exact hX _ (by rw [List.drop_eq_nil_of_le (by simp at h1 ⊢;omega)];rfl)
 refine qn (kq5 J) (kq1 J) (eseq (ecT J (eskip (sqn (eseq (eblock (er ?_)))))))
 have hlt:i < l.length:=by simpa using h1
 obtain ⟨a,ha⟩:=get_of_lt hlt
 have hd:=drop_cons ha
 refine hia (y:=.agg (Str a.name :: encArgs a.params :: ints a.vars :: a.body.cs)) rfl rfl (by omega) (by simp [ha,Node.enc_eq,Br.enc_eq,CFun.enc_eq]) rfl (hlda rfl rfl (lc rfl (lc rfl (lc rfl (lc rfl (lc rfl (lc rfl (lc rfl (lc rfl (ln rfl))))))))) (hal (dc (dc (dc (dc (dc (dc (dc dn rfl) rfl) rfl) rfl) rfl) rfl) rfl) (hstl rfl rfl rfl rfl (Nlb rfl) (lc rfl (lc rfl (lc rfl (lc rfl (lc rfl (lc rfl (lc rfl (lc rfl (ln rfl))))))))) (qk (kc rfl (kc rfl (kc rfl (kc rfl (kc rfl kn))))) (kc rfl (kc rfl kn)) (sqn (eseq (ereg (qp rfl (qp rfl (hcall rfl rfl rfl (typed_c _ a.params (hp a (Lmg ha))) ?_))))))))))
 rintro _ _ ⟨rfl,rfl⟩
 refine qb ?_
 rintro (_ | _) h2
 ·refine pq2 J (zq4 J (qp J (qn (kq5 J) (kq1 J) (ecT J (er (qp J (qn (kq1 J) kn (eret (bqr (sqr ?_))))))))))
  exact hR (by rw [hd];simp_all [funP])
 refine pq2 J (qg J (qp J (qg J (hlda J J (lq5 J) (qg J (hcall J J J (H a (Lmg ha) _) ?_))))))
 rintro _ _ ⟨rfl,rfl⟩
 refine qb ?_
 rintro (_ | _) h3
 ·refine qg J (pq2 J (qn (kq5 J) (kq1 J) (ecT J (er (qp J (qn (kq1 J) kn (eret (bqr (sqr ?_)))))))))
  exact hR (by rw [hd];simp_all [funP])
 refine qg J (pq2 J (qn (kq5 J) (kq1 J) (ecF J (eskip (bqn (sqn (ereg (hadd J J (i64w (by omega)) (qp J (qk (kq4 J) (kq1 J) ?_))))))))))
 exact iP_l3 c l hp H (i + 1) (by omega) hs (fun j h=>hX j (by rw [hd];simp_all [funP])) (fun h=>hR (by rw [hd];simp_all [funP]))
termination_by l.length - i
decreasing_by all_goals omega
theorem isPure_c0 (s:Sg) (c:Core) (hc:CoreSz c) (hxl:∀ d ∈ c.decls,d.xtors.length ≤ 2 ^ 40) (hfl:c.funs.length ≤ 2 ^ 40) (h1:1 ≤ c.funs.length) (H:∀ g ∈ c.funs,PureC g.body):HC p N20_ [.agg (Core.cs c)] s (fun r s'=>r=[B (isPureC c)] ∧ s'=s):=by
 refine hcf J f20_ J ?_
 simp only [chainOf]
 refine er (hbox (dc dn J) J (lq2 J) (qp J (qn (kq1 J) (kq1 J) (eseq (er (pq4 J (qn (kq4 J) (kq1 J) (eblock ?_))))))))
 refine iP_l1 c c.decls hc.xa hxl 0 (by omega) hc.dl ?_ ?_
 intro j hk
 refine bqx (sqn (eseq (er (pq4 J (qn (kq4 J) (kq1 J) (eblock ?_))))))
 refine iP_l3 c c.funs hc.ga H 0 (by omega) hfl ?_ ?_
 intro q hq
 refine bqx (sqn (er (pq2 J ?_)))
 obtain ⟨g0,hg0⟩:=get_of_lt (l:=c.funs) (i:=0) (by omega)
 refine hia (y:=.agg (Str g0.name :: encArgs g0.params :: ints g0.vars :: g0.body.cs)) rfl rfl (by decide) (by simp [hg0,CFun.enc_eq]) rfl (qp rfl (qp rfl (qp rfl (qp rfl (qp rfl (qk (kc rfl kn) kn (sqn (eret (fqr rfl ?_)))))))))
 rotate_left
 intro hq
 refine bqr (sqr (fqr J ?_))
 rotate_left
 intro hk
 refine bqr (sqr (fqr J ?_))
 rotate_left
 all_goals
  refine ⟨congrArg (fun x=>[B x]) ?_,J⟩
  simp_all [isPureC,-List.all_eq_true,-List.all_eq_false] <;> omega
theorem isPure_c (s:Sg) (c:Core) (hc:CoreSz c) (hxl:∀ d ∈ c.decls,d.xtors.length ≤ 2 ^ 40) (hfl:c.funs.length ≤ 2 ^ 40) (hok:coreOk c=true) (hbz:∀ g ∈ c.funs,g.body.sz ≤ 2 ^ 40):HC p N20_ [.agg (Core.cs c)] s (fun r s'=>r=[B (isPureC c)] ∧ s'=s):=by
 refine isPure_c0 s c hc hxl hfl ?_ fun g hg=>?_
 ·have h:=hok
  unfold coreOk headsOk at h
  simp only [Bae,Dte] at h
  omega
 have h:=(core_body hok g hg).2.2.2
 exact pure_c _ _ _ h (hbz g hg)
theorem Pure_c (s:Sg) (hQ:QOK s) (c:Core) (hc:CoreSz c) (hxl:∀ d ∈ c.decls,d.xtors.length ≤ 2 ^ 40) (hfl:c.funs.length ≤ 2 ^ 40) (hfv:∀ g ∈ c.funs,g.vars.length ≤ 2 ^ 40) (hbz:∀ g ∈ c.funs,g.body.sz ≤ 2 ^ 40):HC p N8_ [.agg (Core.cs c)] s (fun r s'=>r=[B (coreOk c && isPureC c),I (if coreOk c=true then 0 else 60)] ∧ Ext s s'):=by
 refine hcf J f8_ J ?_
 simp only [chainOf]
 refine er (hbox (dc dn J) J (lq2 J) (pq2 J (qn (kq1 J) (kq1 J) (eseq (er (hlda J J (lq2 J) (hcall J J J (cValid_c _ hQ c hc hfv hbz) ?_)))))))
 rintro _ S1 ⟨rfl,hE⟩
 refine qb ?_
 rintro (_ | _) h1
 ·refine qp J (qn (kq2 J) (kq1 J) (ecT J (er (pq2 J (qn (kq2 J) kn (eret (sqr (fqr J ?_))))))))
  simp_all [AV.ers,AV.er]
 refine qp J (qn (kq2 J) (kq1 J) (ecF J (eskip (sqn (er (hlda J J (lq2 J) (hcall J J J (isPure_c _ c hc hxl hfl (by simp_all) hbz) ?_)))))))
 rintro _ _ ⟨rfl,rfl⟩
 refine pq2 J (qn (kq2 J) kn (eret (fqr J ?_)))
 simp_all [AV.ers,AV.er]
structure ExtM (s s':Sg):Prop where
 e:Ext s s'
 mu:∀ g,g < s.mn → s'.mu g=s.mu g
 mn:s.mn ≤ s'.mn
theorem ExtM.refl (s:Sg):ExtM s s:=⟨Ext.refl s,fun _ _=>rfl,Nat.le_refl _⟩
theorem ExtM.trans {a b c:Sg} (h:ExtM a b) (k:ExtM b c):ExtM a c:=⟨h.e.trans k.e,fun g hg=>(k.mu g (Nat.lt_of_lt_of_le hg h.mn)).trans (h.mu g hg),Nat.le_trans h.mn k.mn⟩
theorem ExtM.new {s:Sg} {o:AObj}:ExtM s (s.new o):=⟨Ext.new,fun _ _=>rfl,Nat.le_refl _⟩
def DQ (s:Sg):Prop:=dualsIn s=true
theorem DQ.ext {s s':Sg} (h:DQ s) (e:ExtM s s'):DQ s':=by
 unfold DQ dualsIn at *
 rw [e.e.Q]
 exact h
def dualOp (n:Int):Int:=(dualsL[n.toNat]?).getD 0
section
variable {c:Caller} {l:List AIns} {E:Nat → Option TV} {L:Nat → Option (List AV)} {n:Nat} {v:Nat → Bool} {D:List (Nat × List AV)} {S:Sg} {Q:Fr → Prop}
theorem hldc {d off:Nat} {a:AO} {cs:List AV} {y:AV} (h1:ev E a=some (.val (.cptr cs off))) (h2:cs[off]?=some y)
 (k:HL c l ⟨upd E d (some (.val y)),L,n,v,D,S⟩ Q):HL c (⟨some d,none,.ld false none a⟩ :: l) ⟨E,L,n,v,D,S⟩ Q :=
 hop (by simp only [ins,run1,aop,h1,Obs,ldAt,rd,h2];rfl) k
end
theorem hcallq {p:Pg} {E:Nat → Option TV} {L:Nat → Option (List AV)} {n:Nat} {v:Nat → Bool} {D:List (Nat × List AV)} {S:Sg} {l:List AIns} {Q:Fr → Prop} {d:Nat} {f:AO} {as:List AO} {g:Nat} {a b q q':List AV} {R:List AV → Sg → Prop}
 (h1:evV E f=some (.fn g a b)) (h2:evVs E as=some q) (h3:AV.ers (a ++ q ++ b)=q') (h4:HC p g q' S R) (hq:∀ res S',R res S' → S'.Q=S.Q) (k:∀ res S',R res S' → HL (callL p) l ⟨upd E d (some (toTV res)),L,n,v,D,S'⟩ Q) :
 HL (callL p) (⟨some d,none,.callq [] f as⟩ :: l) ⟨E,L,n,v,D,S⟩ Q:=by
 subst h3
 obtain ⟨res,S',h5,h6⟩:=h4
 refine hop ?_ (k res S' h6)
 simp only [ins,run1,aop,h1,h2,Obs,callOf,h5,qres]
 rw [if_pos (show keeps E S S' [] from hq res S' h6)]
 rfl
def fcs (ns:List Node):List AV:=ns.flatMap Node.cs
def AccN (b:Nat) (out:AV) (ns:List Node) (S:Sg):Prop:=(ns=[] ∧ out=.slice .full 5 []) ∨ (∃ g,out=.ms g 0 ns.length 5 ∧ S.mu g=some (fcs ns) ∧ b ≤ g ∧ g < S.mn)
def AccR (b:Nat) (out:AV) (ns:List Node) (S:Sg):Prop:=(ns=[] ∧ out=SL 5 []) ∨ (∃ g,out=.ms g 0 ns.length 5 ∧ S.mu g=some (fcs ns) ∧ b ≤ g ∧ g < S.mn)
theorem AccN.mono {b:Nat} {out:AV} {ns:List Node} {S S':Sg} (h:AccN b out ns S) (e:ExtM S S'):AccN b out ns S':=by
 rcases h with h | ⟨g,h1,h2,h3,h4⟩
 ·exact .inl h
 exact .inr ⟨g,h1,(e.mu g h4).trans h2,h3,Nat.lt_of_lt_of_le h4 e.mn⟩
theorem AccR.mono {b:Nat} {out:AV} {ns:List Node} {S S':Sg} (h:AccR b out ns S) (e:ExtM S S'):AccR b out ns S':=by
 rcases h with h | ⟨g,h1,h2,h3,h4⟩
 ·exact .inl h
 exact .inr ⟨g,h1,(e.mu g h4).trans h2,h3,Nat.lt_of_lt_of_le h4 e.mn⟩
theorem ereg_1 {c:Caller} {l:List AIns} {a:Nat} {k kl:List Nat} {E E1:Nat → Option TV} {L:Nat → Option (List AV)} {n:Nat} {v:Nat → Bool} {D:List (Nat × List AV)} {S:Sg} {Q:Ex → Fr → Prop}
 (h1:dropL a E=E1) (h:HL c l ⟨E1,upd L a none,n,v,D,S⟩ (KQ k kl Q)):EX c (.reg l [a] k kl) ⟨E,L,n,v,D,S⟩ Q:=by
 refine eregf ?_
 rw [← h1] at h
 exact h
theorem mu_back {S:Sg} {g:Nat} {x:Option (List AV)} {S0:Sg} {y:Option (List AV)} (hE:ExtM S0 S) (hg:S0.mn ≤ g):ExtM S0 { S with mu:=upd (upd S.mu g y) g x } :=
 ⟨⟨hE.e.nx,hE.e.ob,hE.e.gn,hE.e.gl,hE.e.Q⟩,fun i hi=>by
  show upd (upd S.mu g y) g x i=_
  rw [upd_ne _ _ (by omega),upd_ne _ _ (by omega)]
  exact hE.mu i hi,hE.mn⟩
theorem gad_c {S:Sg} (h:DQ S) {op:Int} (h0:0 ≤ op) (h1:op ≤ 14):wopOf (.gad 0 1 (dualsL.map I)) S [I op]=some (.cptr (dualsL.map I) op.toNat,S):=by
 have hk:∀ j c,(dualsL.map I)[j]?=some c → S.Q 0 j=some c:=by
  intro j c hj
  rw [Lgm] at hj
  obtain ⟨x,hx,rfl⟩:=Option.map_eq_some_iff.1 hj
  have h2:=List.all_eq_true.1 h (x,j) (List.mk_mem_zipIdx_iff_getElem?.2 hx)
  simp only [isI] at h2
  split at h2
  ·rename_i m e
   rw [e,Odt h2]
  cases h2
 simp only [wopOf,asN,Obs,gadOf]
 rw [if_pos ⟨h0,by simp [dualsL];omega,hk⟩]
 simp
theorem dual_at {op:Int} (h0:0 ≤ op) (h1:op ≤ 14):(dualsL.map I)[op.toNat]?=some (I (dualOp op)):=by
 have h:op.toNat < dualsL.length:=by simp [dualsL];omega
 rw [Lgm,dualOp,List.getElem?_eq_getElem h]
 rfl
theorem len9 {ds:List Decl} {fs:List CFun} {a:Node} {X A:Int → Bool} (h:vN ds fs a X A=true) (e:a.op=9):a.args.length=2:=by
 obtain ⟨_,_,want,xs,hh,hl⟩:=vN_parts h
 rw [e] at hh
 simp [headOf] at hh
 rw [hl,← hh.2.1];rfl
theorem AccR.cells {b:Nat} {out:AV} {ns:List Node} {S:Sg} (h:AccR b out ns S):out.cells=[out] ∧ out.erT=out ∧ (∀ t sz xs,out ≠ .slice (.tip t) sz xs) ∧ out.er=out:=by
 rcases h with ⟨_,rfl⟩ | ⟨g,rfl,_⟩
 ·exact ⟨rfl,rfl,(fun _ _ _ h=>nomatch h),rfl⟩
 exact ⟨rfl,rfl,(fun _ _ _ h=>nomatch h),rfl⟩
theorem AccR.new {b:Nat} {out:AV} {ns:List Node} {S:Sg} {o:AObj} (h:AccR b out ns S):AccR b out ns (S.new o):=h
theorem AccR.set {b i:Nat} {out:AV} {ns:List Node} {S:Sg} {o:AObj} (h:AccR b out ns S):AccR b out ns (S.set i o):=h
theorem ExtM.set {s s':Sg} {i:Nat} {o:AObj} (h:ExtM s s') (hi:s.nx ≤ i):ExtM s (s'.set i o):=⟨h.e.set hi,h.mu,h.mn⟩
theorem ExtM.mus {s s':Sg} {g:Nat} {x:Option (List AV)} (h:ExtM s s') (hg:s.mn ≤ g):ExtM s { s' with mu:=upd s'.mu g x } :=
 ⟨⟨h.e.nx,h.e.ob,h.e.gn,h.e.gl,h.e.Q⟩,fun i hi=>(upd_ne _ _ (by omega)).trans (h.mu i hi),h.mn⟩
theorem fill_out {out:AV} {a b c:Int} (h:out.cells=[out]):fillA [.lit (.int .i64 0),.lit (.int .i64 0),.lit (.int .i64 0),.slice .full 5 [],.slice .full 7 []] [(0,1,I a),(1,1,I b),(2,1,I c),(3,1,out)]=some [I a,I b,I c,out,.slice .full 7 []]:=by
 have hI:∀ x,(I x).cells=[I x]:=fun _=>rfl
 simp [fillA,h,hI]
theorem head_op {ds:List Decl} {fs:List CFun} {op n ty:Int} {h:List Int × List Xtor} (e:headOf ds fs op n ty=some h):0 ≤ op ∧ op ≤ 14:=by
 by_cases hc:0 ≤ op ∧ op ≤ 14
 ·exact hc
 exfalso
 unfold headOf at e
 rw [if_neg (by omega),if_neg (by omega),if_neg (by omega),if_neg (by omega),if_neg (by omega),if_neg (by omega),if_neg (by omega),if_neg (by omega),if_neg (by omega),if_neg (by omega),if_neg (by omega)] at e
 cases e
theorem DQ.e {s s':Sg} (h:DQ s) (e:Ext s s'):DQ s':=by
 unfold DQ dualsIn at *
 rw [e.Q]
 exact h
structure SzD (c:Core):Prop where
 z:c.sz ≤ 2 ^ 40
 hc:CoreSz c
 dl:c.decls.length ≤ 2 ^ 30
 xl:∀ d ∈ c.decls,d.xtors.length ≤ 2 ^ 30
 xa:∀ d ∈ c.decls,∀ x ∈ d.xtors,x.args.length ≤ 2 ^ 30
 fl:c.funs.length ≤ 2 ^ 30
 fp:∀ g ∈ c.funs,g.params.length ≤ 2 ^ 30
 fv:∀ g ∈ c.funs,g.vars.length ≤ 2 ^ 40
 bz:∀ g ∈ c.funs,g.body.sz ≤ 2 ^ 30
theorem SzD.of {c:Core} (h:c.sz ≤ 2 ^ 30):SzD c:=by
 have h0:=h
 unfold Core.sz at h
 have hd:c.decls.length ≤ szL Decl.sz c.decls:=szL_len fun d=>by unfold Decl.sz;omega
 have hf:c.funs.length ≤ szL CFun.sz c.funs:=szL_len CFun.sz_pos
 have hg:∀ g ∈ c.funs,g.sz ≤ 2 ^ 30:=fun g hg=>by have:=szL_mem (f:=CFun.sz) hg;omega
 have hD:∀ d ∈ c.decls,d.sz ≤ 2 ^ 30:=fun g hg=>by have:=szL_mem (f:=Decl.sz) hg;omega
 have hx:∀ d ∈ c.decls,d.xtors.length ≤ 2 ^ 30:=fun d h1=>by
  have:=hD d h1
  have h2:d.xtors.length ≤ szL Xtor.sz d.xtors:=szL_len fun x=>by unfold Xtor.sz;omega
  unfold Decl.sz at this
  omega
 have hxa:∀ d ∈ c.decls,∀ x ∈ d.xtors,x.args.length ≤ 2 ^ 30:=fun d h1 x h2=>by
  have:=hD d h1
  have h3:=szL_mem (f:=Xtor.sz) h2
  unfold Decl.sz at this
  have e2:x.sz=1 + x.name.size + x.args.length:=rfl
  omega
 have hgp:∀ g ∈ c.funs,g.params.length ≤ 2 ^ 30 ∧ g.vars.length ≤ 2 ^ 30 ∧ g.body.sz ≤ 2 ^ 30:=fun g h1=>by have:=hg g h1;unfold CFun.sz at this;omega
 exact ⟨by omega,⟨by omega,fun d h1 x h2=>Nat.le_trans (hxa d h1 x h2) (by decide),fun g h1=>Nat.le_trans (hgp g h1).1 (by decide)⟩,by omega,hx,hxa,by omega,fun g h1=>(hgp g h1).1,fun g h1=>Nat.le_trans (hgp g h1).2.1 (by decide),fun g h1=>(hgp g h1).2.2⟩
theorem awake_c (s:Sg) (hQ:QOK s) (hD:DQ s):HC p N7_ [] s (fun r s'=>r=[B true] ∧ s'=s):=by
 refine ⟨_,s,?_,J,J⟩
 rw [callL_eq]
 have e:p.ov N7_=some awakeOv:=rfl
 rw [e]
 simp only [awakeOv]
 rw [if_pos ⟨rfl,by rw [Bae];exact ⟨hQ,hD⟩⟩]
theorem QOK.e {s s':Sg} (h:QOK s) (e:Ext s s'):QOK s':=by
 unfold QOK at *
 rw [e.Q]
 exact h
end Go.Sim.Kd
