/-
  A part of a proof: see the last text of this claim.
-/
import Derived.Test.YtljdbieojelmjaaPD
import Derived.Test.YtljdbieojelmjaaPC
set_option linter.unusedVariables false
set_option linter.unusedSimpArgs false
namespace Go.Sim.W
open Go Go.Sim
def QOK (s:Sg):Prop:=hasInt (s.Q 0 0)=true
theorem contains_c (s:Sg) (hQ:QOK s) (a b:ByteArray) (h:a.size < 4294967281):HC p N78_ [Str a,Str b] s (fun r s'=>r=[B (Lib.contains a.data.toList b.data.toList)] ∧ s'=s):=by
 refine ⟨_,s,?_,J,J⟩
 rw [callL_eq]
 have e:p.ov N78_=some containsOv:=rfl
 rw [e]
 simp only [containsOv]
 rw [if_pos ⟨h,hQ⟩]
def within (n most:Int):Bool:=decide (0 ≤ n) && decide (n ≤ most)
def regsOk (l:List Int):Bool:=l.all fun r=>within r 1023
def addrsOk (n:Int) (l:List Int):Bool:=l.all fun r=>within r (n - 1)
def flds (op:Int):ByteArray:=if op=0 ∨ op=5 then ⟨#[65,78]⟩ else if op=1 then ⟨#[65,66]⟩ else if op=2 then ⟨#[80,65,66,67]⟩ else if op=3 then ⟨#[65,78,82]⟩ else if op=4 then ⟨#[65,66,78]⟩
 else if op=6 then ⟨#[65,84]⟩ else if op=7 then ⟨#[78,82]⟩ else if op=8 then ⟨#[65,82]⟩ else ⟨#[65]⟩
theorem flds_size (op:Int):(flds op).size < 4294967281:=by
 unfold flds
 repeat' split
 all_goals decide
def hasS (op:Int) (k:ByteArray):Bool:=Lib.contains (flds op).data.toList k.data.toList
def regOk (op:Int) (k:ByteArray) (r:Int):Bool:=decide (r=0) || (hasS op k && within r 1023)
def numOk (x:Instr) (n:Int):Bool:=if x.op=0 then true else if x.op=2 then within x.n 6 else if x.op=3 then within x.n 100000 else if x.op=4 then within x.n 1023 else if x.op=5 ∨ x.op=7 then within x.n (n - 1) else decide (x.n=0)
def mostR (op:Int):Int:=if op=8 then 1023 else 1024
def instrOk (x:Instr) (n:Int):Bool:=within x.op 10 && numOk x n && regOk x.op ⟨#[65]⟩ x.a && regOk x.op ⟨#[66]⟩ x.b && regOk x.op ⟨#[67]⟩ x.c && (hasS x.op ⟨#[82]⟩ || decide (x.regs.length=0)) && regsOk x.regs && decide ((x.regs.length:Int) ≤ mostR x.op) &&
 (if x.op ≠ 6 then decide (x.to.length=0) else decide (1 ≤ x.to.length) && decide (x.to.length ≤ 6) && addrsOk n x.to)
def ends (op:Int):Bool:=decide (op=7 ∨ op=8 ∨ op=6 ∨ op=10)
theorem within_c (s:Sg) (n most:Int):HC p N35_ [I n,I most] s (fun r s'=>r=[B (within n most)] ∧ s'=s):=by
 refine hcf J f35_ J ?_
 simp only [chainOf]
 refine er (qp J (qn (kq2 J) kn (er (pq2 J (qb ?_)))))
 rintro (_ | _) h1
 ·refine qp J (zq3 J (pq2 J (qn (kq1 J) kn (eret (fqr J ?_)))))
  refine ⟨congrArg (fun x=>[B x]) ?_,J⟩
  simp_all [within] <;> omega
 refine qp J (qg J (qp J (qg J (qp J (qg J (pq3 J (qn (kq1 J) kn (eret (fqr J ?_)))))))))
 refine ⟨congrArg (fun x=>[B x]) ?_,J⟩
 simp_all [within] <;> omega
theorem fields_c (s:Sg) (op:Int):HC p N79_ [I op] s (fun r s'=>r=[Str (flds op)] ∧ s'=s):=by
 refine hcf J f79_ J ?_
 simp only [chainOf]
 refine er (qp J (qn (kq1 J) kn (eseq (er (qp J (qn (kq1 J) kn (eblock (eseq (er (qp J (qb ?_)))))))))))
 rintro (_ | _) h1
 refine qp J (qn (kq2 J) kn (ecF J (ereg (qp J (qb ?_)))))
 rintro (_ | _) h2
 refine qp J (qn (kq2 J) kn (ecF J (er (qp J (qb ?_)))))
 rintro (_ | _) h3
 refine qp J (qn (kq2 J) kn (ecF J (er (qp J (qb ?_)))))
 rintro (_ | _) h4
 refine qp J (qn (kq2 J) kn (ecF J (er (qp J (qb ?_)))))
 rintro (_ | _) h5
 refine qp J (qn (kq2 J) kn (ecF J (er (qp J (qb ?_)))))
 rintro (_ | _) h6
 refine qp J (qn (kq2 J) kn (ecF J (er (qp J (qb ?_)))))
 rintro (_ | _) h7
 refine qp J (qn (kq2 J) kn (ecF J (er (qp J (qb ?_)))))
 rintro (_ | _) h8
 refine qp J (qn (kq2 J) kn (ecF J (er (qp J (qb ?_)))))
 rintro (_ | _) h9
 refine qp J (qn (kq1 J) kn (ecF J (eskip (bqn (sqn (er (qp J (qn (kq1 J) kn (eret (fqr J ?_))))))))))
 refine ⟨congrArg (fun x=>[Str x]) ?_,J⟩
 simp_all [flds]
 refine qp J (qn (kq1 J) kn (ecT J (er (qp J (qn (kq1 J) kn (eret (bqr (sqr (fqr J ?_)))))))))
 refine ⟨congrArg (fun x=>[Str x]) ?_,J⟩
 simp_all [flds]
 rotate_left
 rotate_left
 rotate_left
 rotate_left
 rotate_left
 rotate_left
 rotate_left
 refine qp J (qn (kq2 J) kn (ecT J (eskip (sqn (ecT J (er (qp J (qn (kq1 J) kn (eret (bqr (sqr (fqr J ?_))))))))))))
 refine ⟨congrArg (fun x=>[Str x]) ?_,J⟩
 simp_all [flds]
 all_goals
  refine qp J (qn (kq2 J) kn (ecT J (er (qp J (qn (kq1 J) kn (eret (bqr (sqr (fqr J ?_)))))))))
  refine ⟨congrArg (fun x=>[Str x]) ?_,J⟩
  simp_all [flds]
theorem has_c (s:Sg) (hQ:QOK s) (op:Int) (k:ByteArray):HC p N58_ [I op,Str k] s (fun r s'=>r=[B (hasS op k)] ∧ s'=s):=by
 refine hcf J f58_ J ?_
 simp only [chainOf]
 refine er (qp J (qn (kq2 J) kn (er (qp J (hcall J J J (fields_c _ op) ?_)))))
 rintro _ _ ⟨rfl,rfl⟩
 refine qp J (hcall J J J (contains_c _ hQ _ _ (flds_size op)) ?_)
 rintro _ _ ⟨rfl,rfl⟩
 refine qp J (qn (kq1 J) kn (eret (fqr J ?_)))
 exact ⟨rfl,rfl⟩
theorem register_c (s:Sg) (hQ:QOK s) (op:Int) (k:ByteArray) (x:Int):HC p N57_ [I op,Str k,I x] s (fun r s'=>r=[B (regOk op k x)] ∧ s'=s):=by
 refine hcf J f57_ J ?_
 simp only [chainOf]
 refine er (qp J (qn (kq3 J) kn (er (pq2 J (qb ?_)))))
 rintro (_ | _) h1
 ·refine qp J (qg J (qp J (qg J (qp J (qg J (hcall J J J (has_c _ hQ op k) ?_))))))
  rintro _ _ ⟨rfl,rfl⟩
  refine qb ?_
  rintro (_ | _) h2
  ·refine qg J (qp J (zq2 J (qg J (pq3 J (qn (kq1 J) kn (eret (fqr J ?_)))))))
   refine ⟨congrArg (fun x=>[B x]) ?_,J⟩
   simp_all [regOk]
  refine qg J (qp J (qg J (qp J (qg J (hcall J J J (within_c _ _ _) ?_)))))
  rintro _ _ ⟨rfl,rfl⟩
  refine qg J (pq3 J (qn (kq1 J) kn (eret (fqr J ?_))))
  refine ⟨congrArg (fun x=>[B x]) ?_,J⟩
  simp_all [regOk]
 refine qp J (zq7 J (pq2 J (qn (kq1 J) kn (eret (fqr J ?_)))))
 refine ⟨congrArg (fun x=>[B x]) ?_,J⟩
 simp_all [regOk]
theorem addrs_l (m:Int) (l:List Int) (i:Nat) (hi:i ≤ l.length) (hs:l.length ≤ 2 ^ 40) {n:Nat} {v:Nat → Bool} {D:List (Nat × List AV)} {S:Sg} {Q:Ex → Fr → Prop}
 (hm:0 ≤ m) (hm2:m ≤ 2 ^ 62) (hX:∀ j,addrsOk m (l.drop i)=true → Q (.exit 0) ⟨upd (upd (upd (upd (upd ((fun _=>none)) 10 (some (.val (B false)))) 9 (some (.val (I j)))) 8 (some (.val (I (l.map I).length)))) 7 (some (.val (.slice .none 1 (l.map I))))) 1 (some (.val (I m))),(fun _=>none),n,v,D,S⟩) (hR:addrsOk m (l.drop i)=false → Q .ret ⟨upd ((fun _=>none)) 4 (some (.val (B false))),(fun _=>none),n,v,D,S⟩):EX (callL p) (.loop F36_l1) ⟨upd (upd (upd (upd ((fun _=>none)) 9 (some (.val (I i)))) 8 (some (.val (I (l.map I).length)))) 7 (some (.val (.slice .none 1 (l.map I))))) 1 (some (.val (I m))),(fun _=>none),n,v,D,S⟩ Q:=by
 refine eloop (er (qp J (qb ?_)))
 rintro (_ | _) h1
 ·refine qn (kq5 J) kn (eseq (ecF J (eexit (sqx ?_))))
  exact hX _ (by rw [List.drop_eq_nil_of_le (by simp at h1 ⊢;omega)];rfl)
 refine qn (kq5 J) kn (eseq (ecT J (eskip (sqn (eseq (eblock (er ?_)))))))
 have hlt:i < l.length:=by simpa using h1
 obtain ⟨a,ha⟩:=get_of_lt hlt
 have hd:=drop_cons ha
 refine hia (y:=I a) rfl rfl (by omega) (by simp [ha]) rfl (qp rfl (qp rfl (qk (kc rfl (kc rfl (kc rfl (kc rfl (kc rfl kn))))) kn (sqn (eseq (ereg (qp rfl (qp rfl (hsub rfl rfl (i64w (by omega)) (hcall rfl rfl rfl (within_c _ _ _) ?_))))))))))
 rintro _ _ ⟨rfl,rfl⟩
 refine qb ?_
 rintro (_ | _) h2
 ·refine qp J (qn (kq5 J) kn (ecT J (er (qp J (qn (kq1 J) kn (eret (bqr (sqr ?_))))))))
  exact hR (by rw [hd];simp_all [addrsOk])
 refine qp J (qn (kq5 J) kn (ecF J (eskip (bqn (sqn (ereg (hadd J J (i64w (by omega)) (qp J (qk (kq4 J) kn ?_)))))))))
 exact addrs_l m l (i + 1) (by omega) hs hm hm2 (fun j h=>hX j (by rw [hd];simp_all [addrsOk])) (fun h=>hR (by rw [hd];simp_all [addrsOk]))
termination_by l.length - i
decreasing_by all_goals omega
theorem addrs_c (s:Sg) (l:List Int) (m:Int) (hm:0 ≤ m) (hm2:m ≤ 2 ^ 62) (hl:l.length ≤ 2 ^ 40):HC p N36_ [ints l,I m] s (fun r s'=>r=[B (addrsOk m l)] ∧ s'=s):=by
 refine hcf J f36_ J ?_
 simp only [chainOf]
 refine er (qp J (qn (kq2 J) kn (eseq (er (pq3 J (qn (kq4 J) kn (eblock ?_)))))))
 refine addrs_l m l 0 (by omega) hl hm hm2 ?_ ?_
 ·intro j hj
  refine bqx (sqn (er (qp J (qn (kq1 J) kn (eret (fqr J ?_))))))
  exact ⟨by rw [← hj];rfl,rfl⟩
 intro hj
 refine bqr (sqr (fqr J ?_))
 exact ⟨by rw [← hj];rfl,rfl⟩
theorem regs_l (l:List Int) (i:Nat) (hi:i ≤ l.length) (hs:l.length ≤ 2 ^ 40) {x0 x1:AV} {n:Nat} {v:Nat → Bool} {D:List (Nat × List AV)} {S:Sg} {Q:Ex → Fr → Prop}
 (hX:∀ j,regsOk (l.drop i)=true → Q (.exit 0) ⟨upd (upd (upd (upd (upd (upd ((fun _=>none)) 10 (some (.val (B false)))) 9 (some (.val (I j)))) 8 (some (.val (I (l.map I).length)))) 7 (some (.val (.slice .none 1 (l.map I))))) 1 (some (.val x1))) 0 (some (.val x0)),(fun _=>none),n,v,D,S⟩) (hR:regsOk (l.drop i)=false → Q .ret ⟨upd ((fun _=>none)) 4 (some (.val (B false))),(fun _=>none),n,v,D,S⟩):EX (callL p) (.loop F59_l1) ⟨upd (upd (upd (upd (upd ((fun _=>none)) 9 (some (.val (I i)))) 8 (some (.val (I (l.map I).length)))) 7 (some (.val (.slice .none 1 (l.map I))))) 1 (some (.val x1))) 0 (some (.val x0)),(fun _=>none),n,v,D,S⟩ Q:=by
 refine eloop (er (qp J (qb ?_)))
 rintro (_ | _) h1
 ·refine qn (kq6 J) kn (eseq (ecF J (eexit (sqx ?_))))
  exact hX _ (by rw [List.drop_eq_nil_of_le (by simp at h1 ⊢;omega)];rfl)
 refine qn (kq6 J) kn (eseq (ecT J (eskip (sqn (eseq (eblock (er ?_)))))))
 have hlt:i < l.length:=by simpa using h1
 obtain ⟨a,ha⟩:=get_of_lt hlt
 have hd:=drop_cons ha
 refine hia (y:=I a) rfl rfl (by omega) (by simp [ha]) rfl (qp rfl (qp rfl (qk (kc rfl (kc rfl (kc rfl (kc rfl (kc rfl (kc rfl kn)))))) kn (sqn (eseq (ereg (qp rfl (hcall rfl rfl rfl (within_c _ _ _) ?_))))))))
 rintro _ _ ⟨rfl,rfl⟩
 refine qb ?_
 rintro (_ | _) h2
 ·refine qp J (qn (kq6 J) kn (ecT J (er (qp J (qn (kq1 J) kn (eret (bqr (sqr ?_))))))))
  exact hR (by rw [hd];simp_all [regsOk])
 refine qp J (qn (kq6 J) kn (ecF J (eskip (bqn (sqn (ereg (hadd J J (i64w (by omega)) (qp J (qk (kq5 J) kn ?_)))))))))
 exact regs_l l (i + 1) (by omega) hs (fun j h=>hX j (by rw [hd];simp_all [regsOk])) (fun h=>hR (by rw [hd];simp_all [regsOk]))
termination_by l.length - i
decreasing_by all_goals omega
theorem regs_c (s:Sg) (l:List Int) (m:Int) (hl:l.length ≤ 2 ^ 40):HC p N59_ [ints l,I m] s (fun r s'=>r=[B (regsOk l && decide ((l.length:Int) ≤ m))] ∧ s'=s):=by
 refine hcf J f59_ J ?_
 simp only [chainOf]
 refine er (qp J (qn (kq2 J) kn (eseq (er (pq3 J (qn (kq5 J) kn (eblock ?_)))))))
 refine regs_l l 0 (by omega) hl ?_ ?_
 ·intro j hj
  refine bqx (sqn (er (pq5 J (qn (kq1 J) kn (eret (fqr J ?_))))))
  refine ⟨congrArg (fun x=>[B x]) ?_,J⟩
  rw [List.drop_zero] at hj
  rw [hj]
  simp
 intro hj
 refine bqr (sqr (fqr J ?_))
 refine ⟨congrArg (fun x=>[B x]) ?_,J⟩
 rw [List.drop_zero] at hj
 rw [hj]
 simp
theorem number_c (s:Sg) (x:Instr) (m:Int) (hm:0 ≤ m) (hm2:m ≤ 2 ^ 62):HC p N56_ [.agg x.cs,I m] s (fun r s'=>r=[B (numOk x m)] ∧ s'=s):=by
 refine hcf J f56_ J ?_
 simp only [chainOf]
 refine er (hbox (dq2 J) J (lq7 J) (qp J (qn (kq2 J) (kq1 J) (eseq (er (pq2 J (qn (kq3 J) (kq1 J) (eblock (er (qp J (qb ?_)))))))))))
 rintro (_ | _) h1
 refine qp J (qn (kq4 J) (kq1 J) (ecF J (er (qp J (qb ?_)))))
 rintro (_ | _) h2
 refine qp J (qn (kq4 J) (kq1 J) (ecF J (er (qp J (qb ?_)))))
 rintro (_ | _) h3
 refine qp J (qn (kq4 J) (kq1 J) (ecF J (er (qp J (qb ?_)))))
 rintro (_ | _) h4
 refine qp J (qn (kq4 J) (kq1 J) (ecF J (eseq (er (qp J (qb ?_))))))
 rintro (_ | _) h5
 refine qp J (qn (kq4 J) (kq1 J) (ecF J (ereg (qp J (qb ?_)))))
 rintro (_ | _) h6
 refine qp J (qn (kq3 J) (kq1 J) (ecF J (eskip (bqn (sqn (er (pq4 J (qn (kq1 J) kn (eret (fqr J ?_))))))))))
 refine ⟨congrArg (fun x=>[B x]) ?_,J⟩
 simp_all [numOk]
 refine qp J (qn (kq3 J) (kq1 J) (ecT J (er (pq3 J (hsub J J (i64w (by omega)) (hcall J J J (within_c _ _ _) ?_))))))
 rintro _ _ ⟨rfl,rfl⟩
 refine qp J (qn (kq1 J) kn (eret (bqr (sqr (fqr J ?_)))))
 refine ⟨congrArg (fun x=>[B x]) ?_,J⟩
 simp_all [numOk]
 refine qp J (qn (kq4 J) (kq1 J) (ecT J (eskip (sqn (ecT J (er (pq3 J (hsub J J (i64w (by omega)) (hcall J J J (within_c _ _ _) ?_)))))))))
 rintro _ _ ⟨rfl,rfl⟩
 refine qp J (qn (kq1 J) kn (eret (bqr (sqr (fqr J ?_)))))
 refine ⟨congrArg (fun x=>[B x]) ?_,J⟩
 simp_all [numOk]
 rotate_left
 rotate_left
 rotate_left
 refine qp J (qn (kq4 J) (kq1 J) (ecT J (er (qp J (qn (kq1 J) kn (eret (bqr (sqr (fqr J ?_)))))))))
 refine ⟨congrArg (fun x=>[B x]) ?_,J⟩
 simp_all [numOk]
 all_goals
  refine qp J (qn (kq4 J) (kq1 J) (ecT J (er (pq2 J (hcall J J J (within_c _ _ _) ?_)))))
  rintro _ _ ⟨rfl,rfl⟩
  refine qp J (qn (kq1 J) kn (eret (bqr (sqr (fqr J ?_)))))
  refine ⟨congrArg (fun x=>[B x]) ?_,J⟩
  simp_all [numOk]
theorem ends_c (s:Sg) (op:Int):HC p N38_ [I op] s (fun r s'=>r=[B (ends op)] ∧ s'=s):=by
 refine hcf J f38_ J ?_
 simp only [chainOf]
 refine er (qp J (qn (kq1 J) kn (er (pq2 J (qb ?_)))))
 rintro (_ | _) h1
 ·refine qp J (qg J (qp J (qg J (qp J (qb ?_)))))
  rintro (_ | _) h2
  ·refine pq2 J (qg J (qp J (qg J (qp J (qb ?_)))))
   rintro (_ | _) h3
   ·refine pq2 J (qg J (qp J (qg J (pq3 J (qn (kq1 J) kn (eret (fqr J ?_)))))))
    refine ⟨congrArg (fun x=>[B x]) ?_,J⟩
    simp_all [ends]
   refine pq2 J (zq2 J (pq2 J (qn (kq1 J) kn (eret (fqr J ?_)))))
   refine ⟨congrArg (fun x=>[B x]) ?_,J⟩
   simp_all [ends]
  refine pq2 J (zq2 J (pq2 J (zq2 J (pq2 J (qn (kq1 J) kn (eret (fqr J ?_)))))))
  refine ⟨congrArg (fun x=>[B x]) ?_,J⟩
  simp_all [ends]
 refine qp J (zq2 J (pq2 J (zq2 J (pq2 J (zq2 J (pq2 J (qn (kq1 J) kn (eret (fqr J ?_)))))))))
 refine ⟨congrArg (fun x=>[B x]) ?_,J⟩
 simp_all [ends]
theorem instr_c (s:Sg) (hQ:QOK s) (x:Instr) (m:Int) (hm:0 ≤ m) (hm2:m ≤ 2 ^ 62) (z1:x.regs.length ≤ 2 ^ 40) (z2:x.to.length ≤ 2 ^ 40):HC p N37_ [.agg x.cs,I m] s (fun r s'=>r=[B (instrOk x m)] ∧ s'=s):=by
 refine hcf J f37_ J ?_
 simp only [chainOf]
 refine er (hbox (dq2 J) J (lq7 J) (qp J (qn (kq2 J) (kq1 J) (eseq (er (pq2 J (hcall J J J (within_c _ _ _) ?_)))))))
 rintro _ _ ⟨rfl,rfl⟩
 refine qb ?_
 rintro (_ | _) h1
 refine pq2 J (zq4 J (pq2 J (zq6 J (pq2 J (zq6 J (pq2 J ?_))))))
 refine zq6 J (qp J (qn (kq3 J) (kq1 J) (ecT J (er (qp J (qn (kq1 J) kn (eret (sqr (fqr J ?_)))))))))
 rotate_left
 refine pq2 J (qg J (hlda J J (lq7 J) (qg J (qp J (qg J (hcall J J J (number_c _ x m hm hm2) ?_))))))
 rintro _ _ ⟨rfl,rfl⟩
 refine qb ?_
 rintro (_ | _) h2
 refine qg J (pq3 J (zq6 J (pq2 J (zq6 J (pq2 J (zq4 J ?_))))))
 refine zq2 J (qp J (qn (kq3 J) (kq1 J) (ecT J (er (qp J (qn (kq1 J) kn (eret (sqr (fqr J ?_)))))))))
 rotate_left
 refine qg J (pq3 J (qg J (qp J (qg J (qp J (qg J (qp J (qg J (qp J (qg J (hcall J J J (register_c _ hQ x.op ⟨#[65]⟩ x.a) ?_)))))))))))
 rintro _ _ ⟨rfl,rfl⟩
 refine qb ?_
 rintro (_ | _) h3
 refine qg J (pq3 J (zq6 J (pq2 J (zq6 J (qp J (qn (kq3 J) (kq1 J) (ecT J (er ?_))))))))
 refine qp J (qn (kq1 J) kn (eret (sqr (fqr J ?_))))
 rotate_left
 refine qg J (pq3 J (qg J (qp J (qg J (qp J (qg J (qp J (qg J (qp J (qg J (hcall J J J (register_c _ hQ x.op ⟨#[66]⟩ x.b) ?_)))))))))))
 rintro _ _ ⟨rfl,rfl⟩
 refine qb ?_
 rintro (_ | _) h4
 refine qg J (pq3 J (zq6 J (qp J (qn (kq3 J) (kq1 J) (ecT J (er (qp J (qn (kq1 J) kn (eret (sqr (fqr J ?_)))))))))))
 rotate_left
 refine qg J (pq3 J (qg J (qp J (qg J (qp J (qg J (qp J (qg J (qp J (qg J (hcall J J J (register_c _ hQ x.op ⟨#[67]⟩ x.c) ?_)))))))))))
 rintro _ _ ⟨rfl,rfl⟩
 refine qb ?_
 rintro (_ | _) h5
 refine qg J (pq2 J (qn (kq3 J) (kq1 J) (ecT J (er (qp J (qn (kq1 J) kn (eret (sqr (fqr J ?_)))))))))
 rotate_left
 refine qg J (pq2 J (qn (kq3 J) (kq1 J) (ecF J (eskip (sqn (er (qp J (qn (kq3 J) (kq1 J) (eseq (er (pq3 J (qb ?_))))))))))))
 rintro (_ | _) h6
 refine qn (kq4 J) (kq1 J) (ecF J (eskip (sqn (eseq (er (pq3 J (qb ?_)))))))
 rintro (_ | _) h7
 refine qn (kq4 J) (kq1 J) (ecF J (eskip (sqn (eseq (er (pq2 J (hcall J J J (has_c _ hQ x.op ⟨#[82]⟩) ?_)))))))
 rintro _ _ ⟨rfl,rfl⟩
 refine qb ?_
 rintro (_ | _) h8
 refine pq2 J (qg J (qp J (qg J (qp J (qg J (qp J (qg J (qp J (qb ?_)))))))))
 rintro (_ | _) h9
 refine pq2 J (qg J (qp J (qg J (qp J (qg J (qp J (qg J (hcall J J J (regs_c _ x.regs _ z1) ?_))))))))
 rintro _ _ ⟨rfl,rfl⟩
 refine qb ?_
 rintro (_ | _) h10
 refine qg J (pq2 J (qn (kq3 J) (kq1 J) (ecT J (er (qp J (qn (kq1 J) kn (eret (sqr (fqr J ?_)))))))))
 rotate_left
 refine qg J (pq2 J (qn (kq3 J) (kq1 J) (ecF J (eskip (sqn (eseq (er (pq3 J (qb ?_)))))))))
 rintro (_ | _) h11
 refine qn (kq3 J) (kq1 J) (ecF J (eskip (sqn (er (pq4 J (qb ?_))))))
 rintro (_ | _) h12
 refine qp J (zq4 J (pq2 J (zq4 J (pq2 J (qn (kq1 J) kn (eret (fqr J ?_)))))))
 rotate_left
 refine qp J (qg J (qp J (qg J (qp J (qg J (qp J (qg J (qp J (qb ?_)))))))))
 rintro (_ | _) h13
 refine pq2 J (zq4 J (pq2 J (qn (kq1 J) kn (eret (fqr J ?_)))))
 rotate_left
 refine pq2 J (qg J (qp J (qg J (qp J (qg J (qp J (qg J (hcall J J J (addrs_c _ x.to m hm hm2 z2) ?_))))))))
 rintro _ _ ⟨rfl,rfl⟩
 refine pq2 J (qn (kq1 J) kn (eret (fqr J ?_)))
 rotate_left
 refine qn (kq3 J) (kq1 J) (ecT J (er (pq5 J (qn (kq1 J) kn (eret (sqr (fqr J ?_)))))))
 rotate_left
 refine pq2 J (zq5 J (qp J (qn (kq3 J) (kq1 J) (ecT J (er (qp J (qn (kq1 J) kn (eret (sqr (fqr J ?_))))))))))
 rotate_left
 refine pq2 J (zq4 J (pq2 J (qg J (qp J (qg J (qp J (qg J (qp J (qg J (hcall J J J (regs_c _ x.regs _ z1) ?_))))))))))
 rintro _ _ ⟨rfl,rfl⟩
 refine qb ?_
 rintro (_ | _) h14
 refine qg J (pq2 J (qn (kq3 J) (kq1 J) (ecT J (er (qp J (qn (kq1 J) kn (eret (sqr (fqr J ?_)))))))))
 rotate_left
 refine qg J (pq2 J (qn (kq3 J) (kq1 J) (ecF J (eskip (sqn (eseq (er (pq3 J (qb ?_)))))))))
 rintro (_ | _) h15
 refine qn (kq3 J) (kq1 J) (ecF J (eskip (sqn (er (pq4 J (qb ?_))))))
 rintro (_ | _) h16
 refine qp J (zq4 J (pq2 J (zq4 J (pq2 J (qn (kq1 J) kn (eret (fqr J ?_)))))))
 rotate_left
 refine qp J (qg J (qp J (qg J (qp J (qg J (qp J (qg J (qp J (qb ?_)))))))))
 rintro (_ | _) h17
 refine pq2 J (zq4 J (pq2 J (qn (kq1 J) kn (eret (fqr J ?_)))))
 rotate_left
 refine pq2 J (qg J (qp J (qg J (qp J (qg J (qp J (qg J (hcall J J J (addrs_c _ x.to m hm hm2 z2) ?_))))))))
 rintro _ _ ⟨rfl,rfl⟩
 refine pq2 J (qn (kq1 J) kn (eret (fqr J ?_)))
 rotate_left
 refine qn (kq3 J) (kq1 J) (ecT J (er (pq5 J (qn (kq1 J) kn (eret (sqr (fqr J ?_)))))))
 rotate_left
 refine qn (kq4 J) (kq1 J) (ecT J (ereg (qp J (qn (kq3 J) (kq1 J) (eseq (er (pq2 J (hcall J J J (has_c _ hQ x.op ⟨#[82]⟩) ?_))))))))
 rintro _ _ ⟨rfl,rfl⟩
 refine qb ?_
 rintro (_ | _) h18
 refine pq2 J (qg J (qp J (qg J (qp J (qg J (qp J (qg J (qp J (qb ?_)))))))))
 rintro (_ | _) h19
 refine pq2 J (qg J (qp J (qg J (qp J (qg J (qp J (qg J (hcall J J J (regs_c _ x.regs _ z1) ?_))))))))
 rintro _ _ ⟨rfl,rfl⟩
 refine qb ?_
 rintro (_ | _) h20
 refine qg J (pq2 J (qn (kq3 J) (kq1 J) (ecT J (er (qp J (qn (kq1 J) kn (eret (sqr (fqr J ?_)))))))))
 rotate_left
 refine qg J (pq2 J (qn (kq3 J) (kq1 J) (ecF J (eskip (sqn (eseq (er (pq3 J (qb ?_)))))))))
 rintro (_ | _) h21
 refine qn (kq3 J) (kq1 J) (ecF J (eskip (sqn (er (pq4 J (qb ?_))))))
 rintro (_ | _) h22
 refine qp J (zq4 J (pq2 J (zq4 J (pq2 J (qn (kq1 J) kn (eret (fqr J ?_)))))))
 rotate_left
 refine qp J (qg J (qp J (qg J (qp J (qg J (qp J (qg J (qp J (qb ?_)))))))))
 rintro (_ | _) h23
 refine pq2 J (zq4 J (pq2 J (qn (kq1 J) kn (eret (fqr J ?_)))))
 rotate_left
 refine pq2 J (qg J (qp J (qg J (qp J (qg J (qp J (qg J (hcall J J J (addrs_c _ x.to m hm hm2 z2) ?_))))))))
 rintro _ _ ⟨rfl,rfl⟩
 refine pq2 J (qn (kq1 J) kn (eret (fqr J ?_)))
 rotate_left
 refine qn (kq3 J) (kq1 J) (ecT J (er (pq5 J (qn (kq1 J) kn (eret (sqr (fqr J ?_)))))))
 rotate_left
 refine pq2 J (zq5 J (qp J (qn (kq3 J) (kq1 J) (ecT J (er (qp J (qn (kq1 J) kn (eret (sqr (fqr J ?_))))))))))
 rotate_left
 refine pq2 J (zq4 J (pq2 J (qg J (qp J (qg J (qp J (qg J (qp J (qg J (hcall J J J (regs_c _ x.regs _ z1) ?_))))))))))
 rintro _ _ ⟨rfl,rfl⟩
 refine qb ?_
 rintro (_ | _) h24
 refine qg J (pq2 J (qn (kq3 J) (kq1 J) (ecT J (er (qp J (qn (kq1 J) kn (eret (sqr (fqr J ?_)))))))))
 rotate_left
 refine qg J (pq2 J (qn (kq3 J) (kq1 J) (ecF J (eskip (sqn (eseq (er (pq3 J (qb ?_)))))))))
 rintro (_ | _) h25
 refine qn (kq3 J) (kq1 J) (ecF J (eskip (sqn (er (pq4 J (qb ?_))))))
 rintro (_ | _) h26
 refine qp J (zq4 J (pq2 J (zq4 J (pq2 J (qn (kq1 J) kn (eret (fqr J ?_)))))))
 rotate_left
 refine qp J (qg J (qp J (qg J (qp J (qg J (qp J (qg J (qp J (qb ?_)))))))))
 rintro (_ | _) h27
 refine pq2 J (zq4 J (pq2 J (qn (kq1 J) kn (eret (fqr J ?_)))))
 rotate_left
 refine pq2 J (qg J (qp J (qg J (qp J (qg J (qp J (qg J (hcall J J J (addrs_c _ x.to m hm hm2 z2) ?_))))))))
 rintro _ _ ⟨rfl,rfl⟩
 refine pq2 J (qn (kq1 J) kn (eret (fqr J ?_)))
 rotate_left
 refine qn (kq3 J) (kq1 J) (ecT J (er (pq5 J (qn (kq1 J) kn (eret (sqr (fqr J ?_)))))))
 rotate_left
 refine qn (kq4 J) (kq1 J) (ecT J (ereg (qp J (qn (kq3 J) (kq1 J) (eseq (er (pq3 J (qb ?_))))))))
 rintro (_ | _) h28
 refine qn (kq4 J) (kq1 J) (ecF J (eskip (sqn (eseq (er (pq2 J (hcall J J J (has_c _ hQ x.op ⟨#[82]⟩) ?_)))))))
 rintro _ _ ⟨rfl,rfl⟩
 refine qb ?_
 rintro (_ | _) h29
 refine pq2 J (qg J (qp J (qg J (qp J (qg J (qp J (qg J (qp J (qb ?_)))))))))
 rintro (_ | _) h30
 refine pq2 J (qg J (qp J (qg J (qp J (qg J (qp J (qg J (hcall J J J (regs_c _ x.regs _ z1) ?_))))))))
 rintro _ _ ⟨rfl,rfl⟩
 refine qb ?_
 rintro (_ | _) h31
 refine qg J (pq2 J (qn (kq3 J) (kq1 J) (ecT J (er (qp J (qn (kq1 J) kn (eret (sqr (fqr J ?_)))))))))
 rotate_left
 refine qg J (pq2 J (qn (kq3 J) (kq1 J) (ecF J (eskip (sqn (eseq (er (pq3 J (qb ?_)))))))))
 rintro (_ | _) h32
 refine qn (kq3 J) (kq1 J) (ecF J (eskip (sqn (er (pq4 J (qb ?_))))))
 rintro (_ | _) h33
 refine qp J (zq4 J (pq2 J (zq4 J (pq2 J (qn (kq1 J) kn (eret (fqr J ?_)))))))
 rotate_left
 refine qp J (qg J (qp J (qg J (qp J (qg J (qp J (qg J (qp J (qb ?_)))))))))
 rintro (_ | _) h34
 refine pq2 J (zq4 J (pq2 J (qn (kq1 J) kn (eret (fqr J ?_)))))
 rotate_left
 refine pq2 J (qg J (qp J (qg J (qp J (qg J (qp J (qg J (hcall J J J (addrs_c _ x.to m hm hm2 z2) ?_))))))))
 rintro _ _ ⟨rfl,rfl⟩
 refine pq2 J (qn (kq1 J) kn (eret (fqr J ?_)))
 rotate_left
 refine qn (kq3 J) (kq1 J) (ecT J (er (pq5 J (qn (kq1 J) kn (eret (sqr (fqr J ?_)))))))
 rotate_left
 refine pq2 J (zq5 J (qp J (qn (kq3 J) (kq1 J) (ecT J (er (qp J (qn (kq1 J) kn (eret (sqr (fqr J ?_))))))))))
 rotate_left
 refine pq2 J (zq4 J (pq2 J (qg J (qp J (qg J (qp J (qg J (qp J (qg J (hcall J J J (regs_c _ x.regs _ z1) ?_))))))))))
 rintro _ _ ⟨rfl,rfl⟩
 refine qb ?_
 rintro (_ | _) h35
 refine qg J (pq2 J (qn (kq3 J) (kq1 J) (ecT J (er (qp J (qn (kq1 J) kn (eret (sqr (fqr J ?_)))))))))
 rotate_left
 refine qg J (pq2 J (qn (kq3 J) (kq1 J) (ecF J (eskip (sqn (eseq (er (pq3 J (qb ?_)))))))))
 rintro (_ | _) h36
 refine qn (kq3 J) (kq1 J) (ecF J (eskip (sqn (er (pq4 J (qb ?_))))))
 rintro (_ | _) h37
 refine qp J (zq4 J (pq2 J (zq4 J (pq2 J (qn (kq1 J) kn (eret (fqr J ?_)))))))
 rotate_left
 refine qp J (qg J (qp J (qg J (qp J (qg J (qp J (qg J (qp J (qb ?_)))))))))
 rintro (_ | _) h38
 refine pq2 J (zq4 J (pq2 J (qn (kq1 J) kn (eret (fqr J ?_)))))
 rotate_left
 refine pq2 J (qg J (qp J (qg J (qp J (qg J (qp J (qg J (hcall J J J (addrs_c _ x.to m hm hm2 z2) ?_))))))))
 rintro _ _ ⟨rfl,rfl⟩
 refine pq2 J (qn (kq1 J) kn (eret (fqr J ?_)))
 rotate_left
 refine qn (kq3 J) (kq1 J) (ecT J (er (pq5 J (qn (kq1 J) kn (eret (sqr (fqr J ?_)))))))
 rotate_left
 refine qn (kq4 J) (kq1 J) (ecT J (ereg (qp J (qn (kq3 J) (kq1 J) (eseq (er (pq2 J (hcall J J J (has_c _ hQ x.op ⟨#[82]⟩) ?_))))))))
 rintro _ _ ⟨rfl,rfl⟩
 refine qb ?_
 rintro (_ | _) h39
 refine pq2 J (qg J (qp J (qg J (qp J (qg J (qp J (qg J (qp J (qb ?_)))))))))
 rintro (_ | _) h40
 refine pq2 J (qg J (qp J (qg J (qp J (qg J (qp J (qg J (hcall J J J (regs_c _ x.regs _ z1) ?_))))))))
 rintro _ _ ⟨rfl,rfl⟩
 refine qb ?_
 rintro (_ | _) h41
 refine qg J (pq2 J (qn (kq3 J) (kq1 J) (ecT J (er (qp J (qn (kq1 J) kn (eret (sqr (fqr J ?_)))))))))
 rotate_left
 refine qg J (pq2 J (qn (kq3 J) (kq1 J) (ecF J (eskip (sqn (eseq (er (pq3 J (qb ?_)))))))))
 rintro (_ | _) h42
 refine qn (kq3 J) (kq1 J) (ecF J (eskip (sqn (er (pq4 J (qb ?_))))))
 rintro (_ | _) h43
 refine qp J (zq4 J (pq2 J (zq4 J (pq2 J (qn (kq1 J) kn (eret (fqr J ?_)))))))
 rotate_left
 refine qp J (qg J (qp J (qg J (qp J (qg J (qp J (qg J (qp J (qb ?_)))))))))
 rintro (_ | _) h44
 refine pq2 J (zq4 J (pq2 J (qn (kq1 J) kn (eret (fqr J ?_)))))
 rotate_left
 refine pq2 J (qg J (qp J (qg J (qp J (qg J (qp J (qg J (hcall J J J (addrs_c _ x.to m hm hm2 z2) ?_))))))))
 rintro _ _ ⟨rfl,rfl⟩
 refine pq2 J (qn (kq1 J) kn (eret (fqr J ?_)))
 rotate_left
 refine qn (kq3 J) (kq1 J) (ecT J (er (pq5 J (qn (kq1 J) kn (eret (sqr (fqr J ?_)))))))
 rotate_left
 refine pq2 J (zq5 J (qp J (qn (kq3 J) (kq1 J) (ecT J (er (qp J (qn (kq1 J) kn (eret (sqr (fqr J ?_))))))))))
 rotate_left
 refine pq2 J (zq4 J (pq2 J (qg J (qp J (qg J (qp J (qg J (qp J (qg J (hcall J J J (regs_c _ x.regs _ z1) ?_))))))))))
 rintro _ _ ⟨rfl,rfl⟩
 refine qb ?_
 rintro (_ | _) h45
 refine qg J (pq2 J (qn (kq3 J) (kq1 J) (ecT J (er (qp J (qn (kq1 J) kn (eret (sqr (fqr J ?_)))))))))
 rotate_left
 refine qg J (pq2 J (qn (kq3 J) (kq1 J) (ecF J (eskip (sqn (eseq (er (pq3 J (qb ?_)))))))))
 rintro (_ | _) h46
 refine qn (kq3 J) (kq1 J) (ecF J (eskip (sqn (er (pq4 J (qb ?_))))))
 rintro (_ | _) h47
 refine qp J (zq4 J (pq2 J (zq4 J (pq2 J (qn (kq1 J) kn (eret (fqr J ?_)))))))
 rotate_left
 refine qp J (qg J (qp J (qg J (qp J (qg J (qp J (qg J (qp J (qb ?_)))))))))
 rintro (_ | _) h48
 refine pq2 J (zq4 J (pq2 J (qn (kq1 J) kn (eret (fqr J ?_)))))
 rotate_left
 refine pq2 J (qg J (qp J (qg J (qp J (qg J (qp J (qg J (hcall J J J (addrs_c _ x.to m hm hm2 z2) ?_))))))))
 rintro _ _ ⟨rfl,rfl⟩
 refine pq2 J (qn (kq1 J) kn (eret (fqr J ?_)))
 rotate_left
 refine qn (kq3 J) (kq1 J) (ecT J (er (pq5 J (qn (kq1 J) kn (eret (sqr (fqr J ?_)))))))
 rotate_left
 all_goals
  refine ⟨congrArg (fun x=>[B x]) ?_,J⟩
  simp_all [instrOk,mostR,List.length_eq_zero_iff] <;> (try split) <;> intros <;> first | omega | (simp_all;done) | (simp_all;omega)
structure CodeSz (c:Code):Prop where
 il:c.ins.length ≤ 2 ^ 40
 el:c.entries.length ≤ 2 ^ 40
 rl:∀ x ∈ c.ins,x.regs.length ≤ 2 ^ 40
 tl:∀ x ∈ c.ins,x.to.length ≤ 2 ^ 40
def lastOp (l:List Instr):Int:=((l.map Instr.op)[l.length - 1]?).getD 0
def codeOk (c:Code):Bool:=within c.params 6 && decide (1 ≤ c.ins.length) && decide (c.ins.length ≤ 100000) && decide (c.entries.length ≤ 100000) && addrsOk c.ins.length c.entries && (c.ins.all fun x=>instrOk x c.ins.length) && ends (lastOp c.ins)
theorem is_l (c:Code) (N:Int) (l:List Instr) (hN:0 ≤ N) (hN2:N ≤ 2 ^ 62) (hr:∀ x ∈ l,x.regs.length ≤ 2 ^ 40) (ht:∀ x ∈ l,x.to.length ≤ 2 ^ 40) (i:Nat) (hi:i ≤ l.length) (hs:l.length ≤ 2 ^ 40) {n:Nat} {v:Nat → Bool} {D:List (Nat × List AV)} {S:Sg} {Q:Ex → Fr → Prop}
 (hQ:QOK S) (hX:∀ j,(l.drop i).all (fun x=>instrOk x N)=true → Q (.exit 0) ⟨upd (upd (upd (upd (upd (upd ((fun _=>none)) 38 (some (.val (B false)))) 37 (some (.val (I j)))) 36 (some (.val (I (l.map Instr.enc).length)))) 35 (some (.val (.slice .none 7 (l.map Instr.enc))))) 3 (some (.val (I N)))) 1 (some (.loc 1 0)),upd ((fun _=>none)) 1 (some (c.cs)),n,v,D,S⟩) (hR:(l.drop i).all (fun x=>instrOk x N)=false → Q .ret ⟨upd ((fun _=>none)) 2 (some (.val (B false))),(fun _=>none),n,v,D,S⟩):EX (callL p) (.loop F18_l1) ⟨upd (upd (upd (upd (upd ((fun _=>none)) 37 (some (.val (I i)))) 36 (some (.val (I (l.map Instr.enc).length)))) 35 (some (.val (.slice .none 7 (l.map Instr.enc))))) 3 (some (.val (I N)))) 1 (some (.loc 1 0)),upd ((fun _=>none)) 1 (some (c.cs)),n,v,D,S⟩ Q:=by
 refine eloop (er (qp J (qb ?_)))
 rintro (_ | _) h1
 ·refine qn (kq6 J) (kq1 J) (eseq (ecF J (eexit (sqx ?_))))
  exact hX _ (by rw [List.drop_eq_nil_of_le (by simp at h1 ⊢;omega)];rfl)
 refine qn (kq6 J) (kq1 J) (eseq (ecT J (eskip (sqn (eseq (eblock (er ?_)))))))
 have hlt:i < l.length:=by simpa using h1
 obtain ⟨a,ha⟩:=get_of_lt hlt
 have hd:=drop_cons ha
 refine hia (y:=.agg a.cs) rfl rfl (by omega) (by simp [ha,Instr.enc]) rfl (hlda rfl rfl (lc rfl (lc rfl (lc rfl (lc rfl (lc rfl (lc rfl (lc rfl (ln rfl)))))))) (hal (dc (dc (dc (dc (dc (dc (dc (dc dn rfl) rfl) rfl) rfl) rfl) rfl) rfl) rfl) (hstl rfl rfl rfl rfl (Nlb rfl) (lc rfl (lc rfl (lc rfl (lc rfl (lc rfl (lc rfl (lc rfl (ln rfl)))))))) (qk (kc rfl (kc rfl (kc rfl (kc rfl (kc rfl (kc rfl kn)))))) (kc rfl (kc rfl kn)) (sqn (eseq (ereg (hlda rfl rfl (lc rfl (lc rfl (lc rfl (lc rfl (lc rfl (lc rfl (lc rfl (ln rfl)))))))) (qp rfl (hcall rfl rfl rfl (instr_c _ hQ a N hN hN2 (hr a (Lmg ha)) (ht a (Lmg ha))) ?_))))))))))
 rintro _ _ ⟨rfl,rfl⟩
 refine qb ?_
 rintro (_ | _) h2
 ·refine qp J (qn (kq6 J) (kq1 J) (ecT J (er (qp J (qn (kq1 J) kn (eret (bqr (sqr ?_))))))))
  exact hR (by rw [hd];simp_all)
 refine qp J (qn (kq6 J) (kq1 J) (ecF J (eskip (bqn (sqn (ereg (hadd J J (i64w (by omega)) (qp J (qk (kq5 J) (kq1 J) ?_)))))))))
 exact is_l c N l hN hN2 hr ht (i + 1) (by omega) hs hQ (fun j h=>hX j (by rw [hd];simp_all)) (fun h=>hR (by rw [hd];simp_all))
termination_by l.length - i
decreasing_by all_goals omega
theorem is_c (s:Sg) (hQ:QOK s) (c:Code) (z:CodeSz c):HC p N18_ [.agg c.cs] s (fun r s'=>r=[B (codeOk c)] ∧ s'=s):=by
 refine hcf J f18_ J ?_
 simp only [chainOf]
 refine er (hbox (dc dn J) J (lq3 J) (qp J (qn (kq1 J) (kq1 J) (er (pq4 J (qn (kq2 J) (kq1 J) (eseq (er (pq2 J (hcall J J J (within_c _ _ _) ?_))))))))))
 rintro _ _ ⟨rfl,rfl⟩
 refine qb ?_
 rintro (_ | _) h1
 refine pq2 J (zq2 J (pq2 J (zq2 J (pq2 J (zq4 J (pq2 J (zq5 J (qp J (qn (kq3 J) (kq1 J) ?_)))))))))
 refine ecT J (er (qp J (qn (kq1 J) kn (eret (sqr (fqr J ?_))))))
 rotate_left
 refine pq2 J (qg J (qp J (qg J (qp J (qb ?_)))))
 rintro (_ | _) h2
 refine pq2 J (qg J (qp J (qg J (qp J (qb ?_)))))
 rintro (_ | _) h3
 refine pq2 J (qg J (qp J (qg J (qp J (qg J (qp J (qg J (qp J (qb ?_)))))))))
 rintro (_ | _) h4
 refine qp rfl (qp rfl (qg rfl (qp rfl (qg rfl (qp rfl (qg rfl (qp rfl (qg rfl (hcall rfl rfl rfl (addrs_c _ c.entries _ (by omega) (by have:=z.il;simp;omega) z.el) ?_)))))))))
 rintro _ _ ⟨rfl,rfl⟩
 refine qb ?_
 rintro (_ | _) h5
 refine qg J (pq2 J (qn (kq3 J) (kq1 J) (ecT J (er (qp J (qn (kq1 J) kn (eret (sqr (fqr J ?_)))))))))
 rotate_left
 refine qg J (pq2 J (qn (kq3 J) (kq1 J) (ecF J (eskip (sqn (eseq (er (pq4 J (qn (kq5 J) (kq1 J) (eblock ?_))))))))))
 refine is_l c _ c.ins (by omega) (by have:=z.il;simp;omega) z.rl z.tl 0 (by omega) z.il hQ ?_ ?_
 intro j hj
 rw [List.drop_zero] at hj
 have hl1:1 ≤ c.ins.length:=by simp_all;omega
 obtain ⟨y,hy⟩:=get_of_lt (l:=c.ins) (i:=c.ins.length - 1) (by omega)
 have hlo:lastOp c.ins=y.op:=by rw [lastOp,Lgm,hy];rfl
 refine bqx (sqn (eseq (ereg (qp rfl (qp rfl (qp rfl (hsub rfl rfl (i64w (by have:=z.il;simp;omega)) ?_)))))))
 refine hia (y:=.agg y.cs) rfl rfl (by simp;omega) (by rw [Lgm,show (((c.ins.map Instr.enc).length:Int) - 1).toNat=c.ins.length - 1 from by simp,hy];rfl) rfl ?_
 refine pq2 J (hcall J J J (ends_c _ _) ?_)
 rintro _ _ ⟨rfl,rfl⟩
 refine qp J (qn (kq1 J) kn (eret (fqr J ?_)))
 rotate_left
 intro hj
 rw [List.drop_zero] at hj
 refine bqr (sqr (fqr J ?_))
 rotate_left
 refine pq2 J (zq5 J (qp J (qn (kq3 J) (kq1 J) (ecT J (er (qp J (qn (kq1 J) kn (eret (sqr (fqr J ?_))))))))))
 rotate_left
 refine pq2 J (zq4 J (pq2 J (zq5 J (qp J (qn (kq3 J) (kq1 J) (ecT J (er (qp J (qn (kq1 J) kn (eret (sqr ?_)))))))))))
 refine fqr J ?_
 rotate_left
 refine pq2 J (zq2 J (pq2 J (zq4 J (pq2 J (zq5 J (qp J (qn (kq3 J) (kq1 J) (ecT J (er (qp J ?_))))))))))
 refine qn (kq1 J) kn (eret (sqr (fqr J ?_)))
 rotate_left
 all_goals
  refine ⟨congrArg (fun x=>[B x]) ?_,J⟩
  first
  | (simp_all [codeOk,-List.all_eq_true,-List.all_eq_false];done)
  | (simp_all [codeOk,-List.all_eq_true,-List.all_eq_false];omega)
end Go.Sim.W
namespace Go.Sim.W
open Go Go.Sim
def fldsP:List ByteArray:=[⟨#[97,110]⟩,⟨#[97,98]⟩,⟨#[111,97,98,99]⟩,⟨#[97,116,114]⟩,⟨#[97,98,102]⟩,⟨#[97,112]⟩,⟨#[97,115]⟩,⟨#[112,114]⟩,⟨#[97,114]⟩,⟨#[97]⟩,⟨#[97]⟩]
def namesP:List ByteArray:=[⟨#[108,105,116]⟩,⟨#[109,111,118,101]⟩,⟨#[112,114,105,109]⟩,⟨#[110,101,119]⟩,⟨#[108,111,97,100]⟩,⟨#[122,101,114,111]⟩,⟨#[115,119,105,116,99,104]⟩,⟨#[106,117,109,112]⟩,⟨#[101,110,116,101,114]⟩,⟨#[101,109,105,116]⟩,⟨#[100,111,110,101]⟩]
def shapesL:List AV:=(namesP.zip fldsP).flatMap fun q=>[Str q.1,Str q.2]
def shF (op:Int):ByteArray:=(fldsP[op.toNat]?).getD ⟨#[]⟩
theorem op_cases {op:Int} (h0:0 ≤ op) (h1:op ≤ 10):op=0 ∨ op=1 ∨ op=2 ∨ op=3 ∨ op=4 ∨ op=5 ∨ op=6 ∨ op=7 ∨ op=8 ∨ op=9 ∨ op=10:=by omega
theorem ixv_c {S:Sg} {op:Int} (h0:0 ≤ op) (h1:op ≤ 10):∃ nm,wopOf (.ixv 11 2 (some 2)) S [.agg shapesL,I op]=some (.agg [Str nm,Str (shF op)],S):=by
 rcases op_cases h0 h1 with rfl | rfl | rfl | rfl | rfl | rfl | rfl | rfl | rfl | rfl | rfl <;> exact ⟨_,rfl⟩
theorem shF_ascii (op:Int):asciiB (shF op)=true:=by
 by_cases h:0 ≤ op ∧ op ≤ 10
 ·rcases op_cases h.1 h.2 with rfl | rfl | rfl | rfl | rfl | rfl | rfl | rfl | rfl | rfl | rfl <;> decide
 by_cases h0:0 ≤ op
 ·have e:shF op=⟨#[]⟩:=by
   unfold shF
   rw [List.getElem?_eq_none (by simp [fldsP];omega)]
   rfl
  rw [e]
  decide
 have e:op.toNat=0:=by omega
 have e2:shF op=⟨#[97,110]⟩:=by
  unfold shF
  rw [e]
  rfl
 rw [e2]
 decide
theorem shas_c (s:Sg) (nm f:ByteArray) (hf:asciiB f=true) (r:Int):HC p N61_ [.agg [Str nm,Str f],.lit (.int .i32 r)] s (fun q s'=>q=[B (hasB f r)] ∧ s'=s):=by
 refine ⟨_,s,?_,J,J⟩
 rw [callL_eq]
 have e:p.ov N61_=some hasOv:=rfl
 rw [e]
 simp only [hasOv]
 rw [if_pos hf]
def regP (f:ByteArray) (i:Nat) (r:Int):Bool:=if hasB f (IntKind.i32.wrap (97 + i))=true then within r 1023 else decide (r=0)
def regsP (f:ByteArray):Nat → List Int → Bool
 | _,[]=>true
 | i,r :: l=>regP f i r && regsP f (i + 1) l
def mostP (op:Int):Int:=if op=3 ∨ op=7 then 1024 else if op=8 then 1023 else 0
def numP (f:ByteArray) (n size:Int):Bool:=if hasB f 110=true then true else if hasB f 111=true then within n 6 else if hasB f 116=true then within n 100000 else if hasB f 102=true then within n 1023 else if hasB f 112=true then within n (size - 1) else decide (n=0)
def rightOk (x:Instr) (n:Int):Bool:=within x.op 10 && regsP (shF x.op) 0 [x.a,x.b,x.c] && decide ((x.regs.length:Int) ≤ mostP x.op) && regsOk x.regs && (decide (x.op=6) == decide (0 < x.to.length)) && decide (x.to.length ≤ 6) && addrsOk n x.to && numP (shF x.op) x.n n
theorem right_eq (x:Instr) (n:Int):rightOk x n=instrOk x n:=by
 by_cases h:within x.op 10=true
 ·have h2:=h
  simp only [within,Bae,Dte] at h2
  obtain ⟨op,a,b,c,k,regs,to⟩:=x
  simp only at h2
  rcases op_cases h2.1 h2.2 with rfl | rfl | rfl | rfl | rfl | rfl | rfl | rfl | rfl | rfl | rfl
  all_goals
   have hT:to.length=0 → addrsOk n to=true:=fun e=>by rw [Lnl e];rfl
   have hR:regs.length=0 → regsOk regs=true:=fun e=>by rw [Lnl e];rfl
   simp (decide:=true) only [rightOk,instrOk,regsP,regP,mostP,mostR,numP,numOk,regOk,if_true,if_false,Bool.and_true,Bta,h,Bool.or_false,Bool.false_or,Bfa,Bool.true_or]
   clear h
   rw [Bool.eq_iff_iff]
   generalize regsOk regs=R at *
   generalize addrsOk n to=A at *
   generalize regs.length=q at *
   generalize to.length=q2 at *
   simp only [Bae,Bool.or_eq_true,Dte,within,beq_iff_eq,decide_eq_decide,false_iff,true_iff,Bool.not_eq_true] at *
   cases R <;> cases A <;> simp (decide:=true) at hT hR ⊢ <;> omega
 simp only [rightOk,instrOk,Bool.not_eq_true] at h ⊢
 rw [h]
 simp
theorem shapes_c (s:Sg):HC p N60_ [] s (fun r s'=>r=[.agg shapesL] ∧ s'=s):=by
 refine hcf J f60_ J ?_
 simp only [chainOf]
 refine er (hal dn (qn (kq1 J) (kq1 J) (er (hbuild J J (lq2 J) (hbuild J J (lq2 J) (hbuild J J (lq2 J) (hbuild J J (lq2 J) (hbuild J J (lq2 J) (hbuild J J (lq2 J) (hbuild J J (lq2 J) (hbuild J J (lq2 J) (hbuild J J (lq2 J) (hbuild J J (lq2 J) (hbuild J J (lq2 J) (hbuild J J (lc J (lc J (lc J (lc J (lc J (lc J (lq16 J))))))) (hstl J J J J (Nlb J) (lc J (lc J (lc J (lc J (lc J (lc J (lq16 J))))))) (qn (kq1 J) (kq1 J) (eret (fqr J ?_)))))))))))))))))))
 exact ⟨rfl,rfl⟩
theorem cregister_c (s:Sg) (x:Int):HC p N62_ [I x] s (fun r s'=>r=[B (within x 1023)] ∧ s'=s):=by
 refine hcf J f62_ J ?_
 simp only [chainOf]
 refine er (qp J (qn (kq1 J) kn (er (pq2 J (qb ?_)))))
 rintro (_ | _) h1
 ·refine qp J (zq2 J (pq2 J (qn (kq1 J) kn (eret (fqr J ?_)))))
  refine ⟨congrArg (fun x=>[B x]) ?_,J⟩
  simp_all [within] <;> omega
 refine qp J (qg J (qp J (qg J (pq3 J (qn (kq1 J) kn (eret (fqr J ?_)))))))
 refine ⟨congrArg (fun x=>[B x]) ?_,J⟩
 simp_all [within] <;> omega
theorem cends_c (s:Sg) (op:Int):HC p N39_ [I op] s (fun r s'=>r=[B (ends op)] ∧ s'=s):=by
 refine hcf J f39_ J ?_
 simp only [chainOf]
 refine er (qp J (qn (kq1 J) kn (er (pq2 J (qb ?_)))))
 rintro (_ | _) h1
 ·refine qp J (qg J (qp J (qg J (qp J (qb ?_)))))
  rintro (_ | _) h2
  ·refine pq2 J (qg J (qp J (qg J (qp J (qb ?_)))))
   rintro (_ | _) h3
   ·refine pq2 J (qg J (qp J (qg J (pq3 J (qn (kq1 J) kn (eret (fqr J ?_)))))))
    refine ⟨congrArg (fun x=>[B x]) ?_,J⟩
    simp_all [ends]
   refine pq2 J (zq2 J (pq2 J (qn (kq1 J) kn (eret (fqr J ?_)))))
   refine ⟨congrArg (fun x=>[B x]) ?_,J⟩
   simp_all [ends]
  refine pq2 J (zq2 J (pq2 J (zq2 J (pq2 J (qn (kq1 J) kn (eret (fqr J ?_)))))))
  refine ⟨congrArg (fun x=>[B x]) ?_,J⟩
  simp_all [ends]
 refine qp J (zq2 J (pq2 J (zq2 J (pq2 J (zq2 J (pq2 J (qn (kq1 J) kn (eret (fqr J ?_)))))))))
 refine ⟨congrArg (fun x=>[B x]) ?_,J⟩
 simp_all [ends]
end Go.Sim.W
namespace Go.Sim.W
open Go Go.Sim
theorem IF_l (l:List Int) (g:Int → Bool) (f:Nat) (caps:List AV) (S:Sg) (H:∀ a ∈ l,HC p f (AV.ers (I a :: caps)) S (fun r s'=>r=[B (g a)] ∧ s'=S)) (i:Nat) (hi:i ≤ l.length) (hs:l.length ≤ 2 ^ 40) {n:Nat} {v:Nat → Bool} {D:List (Nat × List AV)} {Q:Ex → Fr → Prop}
 (hX:∀ j,(l.drop i).any g=false → Q (.exit 0) ⟨upd (upd (upd (upd (upd ((fun _=>none)) 9 (some (.val (B false)))) 8 (some (.val (I j)))) 7 (some (.val (I (l.map I).length)))) 1 (some (.val (.fn f [] caps)))) 0 (some (.val (ints l))),(fun _=>none),n,v,D,S⟩) (hR:∀ k:Int,0 ≤ k → (l.drop i).any g=true → Q .ret ⟨upd ((fun _=>none)) 4 (some (.val (I k))),(fun _=>none),n,v,D,S⟩):EX (callL p) (.loop F80_l1) ⟨upd (upd (upd (upd ((fun _=>none)) 8 (some (.val (I i)))) 7 (some (.val (I (l.map I).length)))) 1 (some (.val (.fn f [] caps)))) 0 (some (.val (ints l))),(fun _=>none),n,v,D,S⟩ Q:=by
 refine eloop (er (qp J (qb ?_)))
 rintro (_ | _) h1
 ·refine qn (kq5 J) kn (eseq (ecF J (eexit (sqx ?_))))
  exact hX _ (by rw [List.drop_eq_nil_of_le (by simp at h1 ⊢;omega)];rfl)
 refine qn (kq5 J) kn (eseq (ecT J (eskip (sqn (eseq (eblock (er (pq2 J (qn (kq5 J) kn (er (pq3 J ?_)))))))))))
 have hlt:i < l.length:=by simpa using h1
 obtain ⟨a,ha⟩:=get_of_lt hlt
 have hd:=drop_cons ha
 refine hia (y:=I a) rfl rfl (by omega) (by simp [ha]) rfl (qp rfl (hcall rfl rfl rfl (H a (Lmg ha)) ?_))
 rintro _ _ ⟨rfl,hq⟩
 obtain rfl:=hq.symm
 refine qb ?_
 rintro (_ | _) h2
 ·refine qn (kq6 J) kn (ecF J (eskip (bqn (sqn (ereg (hadd J J (i64w (by omega)) (qp J (qk (kq4 J) kn ?_))))))))
  exact IF_l l g f caps S H (i + 1) (by omega) hs (fun j h=>hX j (by rw [hd];simp_all)) (fun k hk h=>hR k hk (by rw [hd];simp_all))
 refine qn (kq6 J) kn (ecT J (er (pq2 J (qn (kq1 J) kn (eret (bqr (sqr ?_)))))))
 exact hR i (by omega) (by rw [hd];simp_all)
termination_by l.length - i
decreasing_by all_goals omega
theorem IF_c (l:List Int) (g:Int → Bool) (f:Nat) (caps:List AV) (s:Sg) (H:∀ a ∈ l,HC p f (AV.ers (I a :: caps)) s (fun r s'=>r=[B (g a)] ∧ s'=s)) (hs:l.length ≤ 2 ^ 40):HC p N80_ [ints l,.fn f [] caps] s (fun r s'=>∃ k:Int,r=[I k] ∧ decide (0 ≤ k)=l.any g ∧ s'=s):=by
 refine hcf J f80_ J ?_
 simp only [chainOf]
 refine er (qp J (qn (kq2 J) kn (eseq (er (pq3 J (qn (kq4 J) kn (eblock ?_)))))))
 refine IF_l l g f caps _ H 0 (by omega) hs ?_ ?_
 ·intro j ha
  refine bqx (sqn (er (qp J (qn (kq1 J) kn (eret (fqr J ?_))))))
  refine ⟨-1,J,?_,J⟩
  rw [List.drop_zero] at ha
  rw [ha]
  rfl
 intro k hk ha
 refine bqr (sqr (fqr J ?_))
 refine ⟨k,J,?_,J⟩
 rw [List.drop_zero] at ha
 rw [ha,decide_eq_true hk]
theorem CF_c (l:List Int) (g:Int → Bool) (f:Nat) (caps:List AV) (hc:AV.ers caps=caps) (s:Sg) (H:∀ a ∈ l,HC p f (AV.ers (I a :: caps)) s (fun r s'=>r=[B (g a)] ∧ s'=s)) (hs:l.length ≤ 2 ^ 40):HC p N63_ [ints l,.fn f [] caps] s (fun r s'=>r=[B (l.any g)] ∧ s'=s):=by
 refine hcf J f63_ J ?_
 simp only [chainOf]
 refine er (qp rfl (qn (kq2 rfl) kn (er (pq2 rfl (hcall rfl rfl rfl ((show HC p N80_ [ints l,.fn f [] (AV.ers caps)] _ _ by rw [hc];exact IF_c l g f caps _ H hs)) ?_)))))
 rintro _ _ ⟨k,rfl,hk,hq⟩
 obtain rfl:=hq.symm
 refine pq2 J (qn (kq1 J) kn (eret (fqr J ?_)))
 refine ⟨congrArg (fun x=>[B x]) ?_,J⟩
 exact hk
theorem right1_c (s:Sg) (x:Int):HC p N64_ [I x] s (fun r s'=>r=[B (!within x 1023)] ∧ s'=s):=by
 refine hcf J f64_ J ?_
 simp only [chainOf]
 refine er (qp J (qn (kq1 J) kn (er (qp J (hcall J J J (cregister_c _ _) ?_)))))
 rintro _ _ ⟨rfl,rfl⟩
 refine pq2 J (qn (kq1 J) kn (eret (fqr J ?_)))
 exact ⟨rfl,rfl⟩
theorem right2_c (s:Sg) (x m:Int) (i:Nat) (hi:s.ob i=some (.row [I m])):HC p N65_ [I x,.ptr i 0] s (fun r s'=>r=[B (!within x (m - 1))] ∧ s'=s):=by
 refine hcf J f65_ J ?_
 simp only [chainOf]
 refine er (qp J (qn (kq2 J) kn (er (pq2 J (qb ?_)))))
 rintro (_ | _) h1
 ·refine qp J (qg J (qp J (qg J (hldo J hi J ?_))))
  refine qg J (pq3 J (qn (kq1 J) kn (eret (fqr J ?_))))
  refine ⟨congrArg (fun x=>[B x]) ?_,J⟩
  rw [Bool.eq_iff_iff]
  first
  | (simp_all [within];done)
  | (simp [within] at *;omega)
 refine qp J (zq3 J (pq2 J (qn (kq1 J) kn (eret (fqr J ?_)))))
 refine ⟨congrArg (fun x=>[B x]) ?_,J⟩
 rw [Bool.eq_iff_iff]
 first
 | (simp_all [within];done)
 | (simp [within] at *;omega)
theorem cnumber_c (s:Sg) (nm f:ByteArray) (hf:asciiB f=true) (x m:Int):HC p N66_ [.agg [Str nm,Str f],I x,I m] s (fun r s'=>r=[B (numP f x m)] ∧ s'=s):=by
 refine hcf J f66_ J ?_
 simp only [chainOf]
 refine er (hbox (dq3 J) J (lq2 J) (qp J (qn (kq3 J) (kq1 J) (eseq (eblock (er (hlda J J (lq2 J) (hcall J J J (shas_c _ nm f hf _) ?_))))))))
 rintro _ _ ⟨rfl,rfl⟩
 refine qb ?_
 rintro (_ | _) h1
 refine qp J (qn (kq4 J) (kq1 J) (ecF J (er (hlda J J (lq2 J) (hcall J J J (shas_c _ nm f hf _) ?_)))))
 rintro _ _ ⟨rfl,rfl⟩
 refine qb ?_
 rintro (_ | _) h2
 refine qp J (qn (kq4 J) (kq1 J) (ecF J (er (hlda J J (lq2 J) (hcall J J J (shas_c _ nm f hf _) ?_)))))
 rintro _ _ ⟨rfl,rfl⟩
 refine qb ?_
 rintro (_ | _) h3
 refine qp J (qn (kq4 J) (kq1 J) (ecF J (er (hlda J J (lq2 J) (hcall J J J (shas_c _ nm f hf _) ?_)))))
 rintro _ _ ⟨rfl,rfl⟩
 refine qb ?_
 rintro (_ | _) h4
 refine qp J (qn (kq4 J) (kq1 J) (ecF J (er (hlda J J (lq2 J) (hcall J J J (shas_c _ nm f hf _) ?_)))))
 rintro _ _ ⟨rfl,rfl⟩
 refine qb ?_
 rintro (_ | _) h5
 refine qp J (qn (kq3 J) kn (ecF J (eskip (bqn (sqn (er (pq3 J (qn (kq1 J) kn (eret (fqr J ?_))))))))))
 rotate_left
 refine qp J (qn (kq3 J) kn (ecT J (er (pq2 J (qb ?_)))))
 rintro (_ | _) h6
 refine qp J (zq3 J (pq2 J (qn (kq1 J) kn (eret (bqr (sqr (fqr J ?_)))))))
 rotate_left
 refine qp J (qg J (qp J (qg J (qp J (qg J (pq3 J (qn (kq1 J) kn (eret (bqr (sqr (fqr J ?_)))))))))))
 rotate_left
 refine qp J (qn (kq4 J) (kq1 J) (ecT J (er (pq2 J (qb ?_)))))
 rintro (_ | _) h7
 refine qp J (zq2 J (pq2 J (qn (kq1 J) kn (eret (bqr (sqr (fqr J ?_)))))))
 rotate_left
 refine qp J (qg J (qp J (qg J (pq3 J (qn (kq1 J) kn (eret (bqr (sqr (fqr J ?_)))))))))
 rotate_left
 refine qp J (qn (kq4 J) (kq1 J) (ecT J (er (pq2 J (qb ?_)))))
 rintro (_ | _) h8
 refine qp J (zq2 J (pq2 J (qn (kq1 J) kn (eret (bqr (sqr (fqr J ?_)))))))
 rotate_left
 refine qp J (qg J (qp J (qg J (pq3 J (qn (kq1 J) kn (eret (bqr (sqr (fqr J ?_)))))))))
 rotate_left
 refine qp J (qn (kq4 J) (kq1 J) (ecT J (er (pq2 J (qb ?_)))))
 rintro (_ | _) h9
 refine qp J (zq2 J (pq2 J (qn (kq1 J) kn (eret (bqr (sqr (fqr J ?_)))))))
 rotate_left
 refine qp J (qg J (qp J (qg J (pq3 J (qn (kq1 J) kn (eret (bqr (sqr (fqr J ?_)))))))))
 rotate_left
 refine qp J (qn (kq4 J) (kq1 J) (ecT J (er (qp J (qn (kq1 J) kn (eret (bqr (sqr (fqr J ?_)))))))))
 rotate_left
 all_goals
  refine ⟨congrArg (fun x=>[B x]) ?_,J⟩
  simp_all [numP,within] <;> omega
theorem right_l (nm sf:ByteArray) (x:Instr) (ip:Nat) (hf:asciiB sf=true) (l:List Int) (i:Nat) (hi:i ≤ l.length) (hs:l.length ≤ 2 ^ 40) {n:Nat} {v:Nat → Bool} {D:List (Nat × List AV)} {S:Sg} {Q:Ex → Fr → Prop}
 (hX:∀ j,regsP sf i (l.drop i)=true → Q (.exit 0) ⟨upd (upd (upd (upd (upd (upd (upd ((fun _=>none)) 30 (some (.val (B false)))) 29 (some (.val (I j)))) 28 (some (.val (I (l.map I).length)))) 27 (some (.val (.slice .full 1 (l.map I))))) 5 (some (.loc 5 0))) 3 (some (.val (.ptr ip 0)))) 2 (some (.loc 2 0)),upd (upd ((fun _=>none)) 5 (some ([Str nm,Str sf]))) 2 (some (x.cs)),n,v,D,S⟩) (hR:regsP sf i (l.drop i)=false → Q .ret ⟨upd ((fun _=>none)) 4 (some (.val (B false))),(fun _=>none),n,v,D,S⟩):EX (callL p) (.loop F40_l1) ⟨upd (upd (upd (upd (upd (upd ((fun _=>none)) 29 (some (.val (I i)))) 28 (some (.val (I (l.map I).length)))) 27 (some (.val (.slice .full 1 (l.map I))))) 5 (some (.loc 5 0))) 3 (some (.val (.ptr ip 0)))) 2 (some (.loc 2 0)),upd (upd ((fun _=>none)) 5 (some ([Str nm,Str sf]))) 2 (some (x.cs)),n,v,D,S⟩ Q:=by
 refine eloop (er (qp J (qb ?_)))
 rintro (_ | _) h1
 refine qn (kq7 J) (kq2 J) (eseq (ecF J (eexit (sqx ?_))))
 exact hX _ (by rw [List.drop_eq_nil_of_le (by simp at h1 ⊢;omega)];rfl)
 refine qn (kq7 J) (kq2 J) (eseq (ecT J (eskip (sqn (eseq (eblock (er (qp J ?_))))))))
 have hlt:i < l.length:=by simpa using h1
 obtain ⟨a,ha⟩:=get_of_lt hlt
 have hd:=drop_cons ha
 refine hia (y:=I a) rfl rfl (by omega) (by simp [ha]) rfl (qp rfl (qp rfl (qp rfl (qk (kc rfl (kc rfl (kc rfl (kc rfl (kc rfl (kc rfl (kc rfl (kc rfl kn)))))))) (kc rfl (kc rfl kn)) (sqn (eseq (ereg (hlda rfl rfl (lc rfl (lc rfl (ln rfl))) (qp rfl (hadd rfl rfl (i64w (by omega)) (qp rfl (hcall rfl rfl rfl (shas_c _ nm sf hf _) ?_))))))))))))
 rintro _ _ ⟨rfl,rfl⟩
 refine qb ?_
 rintro (_ | _) h2
 refine qp J (zq3 J (pq2 J (qg J (hlda J J (lq2 J) (qg J (qp J (qg J (hadd J J (i64w (by omega)) (qg J (qp J (qg J (hcall J J J (shas_c _ nm sf hf _) ?_))))))))))))
 rintro _ _ ⟨rfl,rfl⟩
 refine qb ?_
 rintro (_ | _) h3
 refine qg J (qp J (qg J (qp J (qg J (qp J (qg J (qp J (qb ?_))))))))
 rintro (_ | _) h4
 refine qg J (pq2 J (qn (kq7 J) (kq2 J) (ecF J (eskip (bqn (sqn (ereg (hadd J J (i64w (by omega)) (qp J (qk (kq6 J) (kq2 J) ?_))))))))))
 exact right_l nm sf x ip hf l (i + 1) (by omega) hs (fun j h=>hX j (by rw [hd];simp_all [regsP,regP])) (fun h=>hR (by rw [hd];simp_all [regsP,regP]))
 refine qg J (pq2 J (qn (kq7 J) (kq2 J) (ecT J (er (qp J (qn (kq1 J) kn (eret (bqr (sqr ?_)))))))))
 exact hR (by rw [hd];simp_all [regsP,regP])
 rotate_left
 refine qp J (qg J (qp J (qg J (hcall J J J (cregister_c _ _) ?_))))
 rintro _ _ ⟨rfl,rfl⟩
 refine qb ?_
 rintro (_ | _) h5
 refine qg J (pq3 J (zq10 J (qp J (qn (kq7 J) (kq2 J) (ecT J (er (qp J (qn (kq1 J) kn (eret ?_)))))))))
 refine bqr (sqr ?_)
 exact hR (by rw [hd];simp_all [regsP,regP])
 refine qg J (pq3 J (qg J (hlda J J (lq2 J) (qg J (qp J (qg J (hadd J J (i64w (by omega)) (qg J (qp J (qg J (hcall J J J (shas_c _ nm sf hf _) ?_)))))))))))
 rintro _ _ ⟨rfl,rfl⟩
 refine qb ?_
 rintro (_ | _) h6
 refine qg J (qp J (qg J (qp J (qg J (qp J (qg J (qp J (qb ?_))))))))
 rintro (_ | _) h7
 refine qg J (pq2 J (qn (kq7 J) (kq2 J) (ecF J (eskip (bqn (sqn (ereg (hadd J J (i64w (by omega)) (qp J (qk (kq6 J) (kq2 J) ?_))))))))))
 exact right_l nm sf x ip hf l (i + 1) (by omega) hs (fun j h=>hX j (by rw [hd];simp_all [regsP,regP])) (fun h=>hR (by rw [hd];simp_all [regsP,regP]))
 refine qg J (pq2 J (qn (kq7 J) (kq2 J) (ecT J (er (qp J (qn (kq1 J) kn (eret (bqr (sqr ?_)))))))))
 exact hR (by rw [hd];simp_all [regsP,regP])
 rotate_left
 all_goals
  refine qg J (qp J (qg J (qp J (zq2 J (qg J (pq2 J (qn (kq7 J) (kq2 J) (ecF J (eskip (bqn (sqn (ereg (hadd J J (i64w (by omega)) (qp J (qk (kq6 J) (kq2 J) ?_)))))))))))))))
  exact right_l nm sf x ip hf l (i + 1) (by omega) hs (fun j h=>hX j (by rw [hd];simp_all [regsP,regP])) (fun h=>hR (by rw [hd];simp_all [regsP,regP]))
termination_by l.length - i
decreasing_by all_goals omega
structure EM (s s':Sg):Prop where
 e:Ext s s'
 mu:s'.mu=s.mu
 mn:s'.mn=s.mn
theorem EM.refl (s:Sg):EM s s:=⟨Ext.refl s,rfl,rfl⟩
theorem EM.trans {a b c:Sg} (h:EM a b) (k:EM b c):EM a c:=⟨h.e.trans k.e,k.mu.trans h.mu,k.mn.trans h.mn⟩
theorem EM.new {s:Sg} {o:AObj}:EM s (s.new o):=⟨Ext.new,rfl,rfl⟩
theorem any_not (l:List Int) (g:Int → Bool):(l.any fun a=>!g a)=!l.all g:=by
 induction l with
 | nil=>rfl
 | cons a l ih=>simp only [List.any_cons,List.all_cons,ih];cases g a <;> rfl
theorem right_c (s:Sg) (x:Instr) (m:Int) (z1:x.regs.length ≤ 2 ^ 40) (z2:x.to.length ≤ 2 ^ 40):HC p N40_ [.agg x.cs,I m] s (fun r s'=>r=[B (rightOk x m)] ∧ EM s s'):=by
 refine hcf J f40_ J ?_
 simp only [chainOf]
 refine er (hbox (dq2 J) J (lq7 J) (hboxo J (lq1 J) (qp J (qn (kq2 J) (kq1 J) (eseq (er (pq3 J (qb ?_))))))))
 rintro (_ | _) h1
 refine qp J (qg J (qp J (qg J (qp J (qg J (qp J (qb ?_)))))))
 rintro (_ | _) h2
 refine qp J (qn (kq3 J) (kq1 J) (ecF J (eskip (sqn (eseq (ereg_1 (dq3 J) (hcall J J J (shapes_c _) ?_)))))))
 rintro _ _ ⟨rfl,rfl⟩
 refine pq2 J ?_
 obtain ⟨nm,hnm⟩:=ixv_c (S:=_) (op:=x.op) (by simp_all) (by simp_all)
 refine hwop J hnm (hal (dq7 J) (hstl J J J J (Nlb J) (lq2 J) (qn (kq3 J) (kq2 J) (eseq (er (pq6 J (hbsl J J (lq3 J) (pq2 J (qn (kq6 J) (kq2 J) (eblock ?_))))))))))
 refine right_l nm (shF x.op) x _ (shF_ascii _) [x.a,x.b,x.c] 0 (by simp) (by simp) ?_ ?_
 intro j hj
 rw [List.drop_zero] at hj
 refine bqx (sqn (er (qp J (qn (kq4 J) (kq2 J) (eseq (er (pq2 J (qn (kq5 J) (kq2 J) (eblock (er (qp J (qb ?_))))))))))))
 rintro (_ | _) h3
 refine qp J (qn (kq6 J) (kq2 J) (ecF J (er (qp J (qb ?_)))))
 rintro (_ | _) h4
 refine qp J (qn (kq6 J) (kq2 J) (ecF J (er (qp J (qb ?_)))))
 rintro (_ | _) h5
 refine qp J (qn (kq5 J) (kq2 J) (ecF J (eskip (bqn (sqn (eseq (er (pq5 J (qb ?_)))))))))
 rintro (_ | _) h6
 refine qp J (qg J (qp J (qg J (qp J (qg J (hcall J J J (CF_c x.regs (fun a=>!within a 1023) N64_ [] J _ (fun a _=>right1_c _ a) z1) ?_))))))
 rintro _ _ ⟨rfl,rfl⟩
 rw [any_not]
 refine qb ?_
 rintro (_ | _) h7
 refine qp J (qn (kq4 J) (kq2 J) (ecF J (eskip (sqn (eseq (er (pq6 J (pq2 J (qb ?_)))))))))
 rintro (_ | _) h8
 refine qp J (qg J (qp J (qg J (qp J (qg J (qp J (qg J (qp J (qb ?_)))))))))
 rintro (_ | _) h9
 refine pq2 J (qg J (qp J (qg J (qp J (qg J (qp J (qg J (hcall J J J (CF_c x.to (fun a=>!within a (m - 1)) N65_ [.ptr _ 0] J _ (fun a _=>right2_c _ a m _ (upd_same _ _ _)) z2) ?_))))))))
 rintro _ _ ⟨rfl,rfl⟩
 rw [any_not]
 refine qb ?_
 rintro (_ | _) h10
 refine qp J (qn (kq4 J) (kq2 J) (ecF J (eskip (sqn (er (hlda J J (lq2 J) (pq2 J (hldo J (upd_same _ _ _) J ?_))))))))
 refine hcall J J J (cnumber_c _ nm _ (shF_ascii _) _ _) ?_
 rintro _ _ ⟨rfl,rfl⟩
 refine qp J (qn (kq1 J) kn (eret (fqr J ?_)))
 rotate_left
 refine qp J (qn (kq4 J) (kq2 J) (ecT J (er (qp J (qn (kq1 J) kn (eret (sqr (fqr J ?_))))))))
 rotate_left
 refine pq2 J (zq4 J (qp J (qn (kq4 J) (kq2 J) (ecT J (er (qp J (qn (kq1 J) kn (eret (sqr (fqr J ?_))))))))))
 rotate_left
 refine qp J (zq4 J (pq2 J (zq4 J (qp J (qn (kq4 J) (kq2 J) (ecT J (er (qp J (qn (kq1 J) kn (eret (sqr (fqr J ?_))))))))))))
 rotate_left
 refine qp J (qn (kq4 J) (kq2 J) (ecT J (er (qp J (qn (kq1 J) kn (eret (sqr (fqr J ?_))))))))
 rotate_left
 refine qp J (zq3 J (qp J (qn (kq4 J) (kq2 J) (ecT J (er (qp J (qn (kq1 J) kn (eret (sqr (fqr J ?_))))))))))
 rotate_left
 refine qp J (qn (kq5 J) (kq2 J) (ecT J (ereg (qp J (qk (kq4 J) (kq2 J) (bqn (sqn (eseq (er (pq5 J (qb ?_)))))))))))
 rintro (_ | _) h11
 refine qp J (qg J (qp J (qg J (qp J (qg J (hcall J J J (CF_c x.regs (fun a=>!within a 1023) N64_ [] J _ (fun a _=>right1_c _ a) z1) ?_))))))
 rintro _ _ ⟨rfl,rfl⟩
 rw [any_not]
 refine qb ?_
 rintro (_ | _) h12
 refine qp J (qn (kq4 J) (kq2 J) (ecF J (eskip (sqn (eseq (er (pq6 J (pq2 J (qb ?_)))))))))
 rintro (_ | _) h13
 refine qp J (qg J (qp J (qg J (qp J (qg J (qp J (qg J (qp J (qb ?_)))))))))
 rintro (_ | _) h14
 refine pq2 J (qg J (qp J (qg J (qp J (qg J (qp J (qg J (hcall J J J (CF_c x.to (fun a=>!within a (m - 1)) N65_ [.ptr _ 0] J _ (fun a _=>right2_c _ a m _ (upd_same _ _ _)) z2) ?_))))))))
 rintro _ _ ⟨rfl,rfl⟩
 rw [any_not]
 refine qb ?_
 rintro (_ | _) h15
 refine qp J (qn (kq4 J) (kq2 J) (ecF J (eskip (sqn (er (hlda J J (lq2 J) (pq2 J (hldo J (upd_same _ _ _) J ?_))))))))
 refine hcall J J J (cnumber_c _ nm _ (shF_ascii _) _ _) ?_
 rintro _ _ ⟨rfl,rfl⟩
 refine qp J (qn (kq1 J) kn (eret (fqr J ?_)))
 rotate_left
 refine qp J (qn (kq4 J) (kq2 J) (ecT J (er (qp J (qn (kq1 J) kn (eret (sqr (fqr J ?_))))))))
 rotate_left
 refine pq2 J (zq4 J (qp J (qn (kq4 J) (kq2 J) (ecT J (er (qp J (qn (kq1 J) kn (eret (sqr (fqr J ?_))))))))))
 rotate_left
 refine qp J (zq4 J (pq2 J (zq4 J (qp J (qn (kq4 J) (kq2 J) (ecT J (er (qp J (qn (kq1 J) kn (eret (sqr (fqr J ?_))))))))))))
 rotate_left
 refine qp J (qn (kq4 J) (kq2 J) (ecT J (er (qp J (qn (kq1 J) kn (eret (sqr (fqr J ?_))))))))
 rotate_left
 refine qp J (zq3 J (qp J (qn (kq4 J) (kq2 J) (ecT J (er (qp J (qn (kq1 J) kn (eret (sqr (fqr J ?_))))))))))
 rotate_left
 refine qp J (qn (kq6 J) (kq2 J) (ecT J (ereg (qp J (qk (kq4 J) (kq2 J) (bqn (sqn (eseq (er (pq5 J (qb ?_)))))))))))
 rintro (_ | _) h16
 refine qp J (qg J (qp J (qg J (qp J (qg J (hcall J J J (CF_c x.regs (fun a=>!within a 1023) N64_ [] J _ (fun a _=>right1_c _ a) z1) ?_))))))
 rintro _ _ ⟨rfl,rfl⟩
 rw [any_not]
 refine qb ?_
 rintro (_ | _) h17
 refine qp J (qn (kq4 J) (kq2 J) (ecF J (eskip (sqn (eseq (er (pq6 J (pq2 J (qb ?_)))))))))
 rintro (_ | _) h18
 refine qp J (qg J (qp J (qg J (qp J (qg J (qp J (qg J (qp J (qb ?_)))))))))
 rintro (_ | _) h19
 refine pq2 J (qg J (qp J (qg J (qp J (qg J (qp J (qg J (hcall J J J (CF_c x.to (fun a=>!within a (m - 1)) N65_ [.ptr _ 0] J _ (fun a _=>right2_c _ a m _ (upd_same _ _ _)) z2) ?_))))))))
 rintro _ _ ⟨rfl,rfl⟩
 rw [any_not]
 refine qb ?_
 rintro (_ | _) h20
 refine qp J (qn (kq4 J) (kq2 J) (ecF J (eskip (sqn (er (hlda J J (lq2 J) (pq2 J (hldo J (upd_same _ _ _) J ?_))))))))
 refine hcall J J J (cnumber_c _ nm _ (shF_ascii _) _ _) ?_
 rintro _ _ ⟨rfl,rfl⟩
 refine qp J (qn (kq1 J) kn (eret (fqr J ?_)))
 rotate_left
 refine qp J (qn (kq4 J) (kq2 J) (ecT J (er (qp J (qn (kq1 J) kn (eret (sqr (fqr J ?_))))))))
 rotate_left
 refine pq2 J (zq4 J (qp J (qn (kq4 J) (kq2 J) (ecT J (er (qp J (qn (kq1 J) kn (eret (sqr (fqr J ?_))))))))))
 rotate_left
 refine qp J (zq4 J (pq2 J (zq4 J (qp J (qn (kq4 J) (kq2 J) (ecT J (er (qp J (qn (kq1 J) kn (eret (sqr (fqr J ?_))))))))))))
 rotate_left
 refine qp J (qn (kq4 J) (kq2 J) (ecT J (er (qp J (qn (kq1 J) kn (eret (sqr (fqr J ?_))))))))
 rotate_left
 refine qp J (zq3 J (qp J (qn (kq4 J) (kq2 J) (ecT J (er (qp J (qn (kq1 J) kn (eret (sqr (fqr J ?_))))))))))
 rotate_left
 refine qp J (qn (kq6 J) (kq2 J) (ecT J (ereg (qp J (qk (kq4 J) (kq2 J) (bqn (sqn (eseq (er (pq5 J (qb ?_)))))))))))
 rintro (_ | _) h21
 refine qp J (qg J (qp J (qg J (qp J (qg J (hcall J J J (CF_c x.regs (fun a=>!within a 1023) N64_ [] J _ (fun a _=>right1_c _ a) z1) ?_))))))
 rintro _ _ ⟨rfl,rfl⟩
 rw [any_not]
 refine qb ?_
 rintro (_ | _) h22
 refine qp J (qn (kq4 J) (kq2 J) (ecF J (eskip (sqn (eseq (er (pq6 J (pq2 J (qb ?_)))))))))
 rintro (_ | _) h23
 refine qp J (qg J (qp J (qg J (qp J (qg J (qp J (qg J (qp J (qb ?_)))))))))
 rintro (_ | _) h24
 refine pq2 J (qg J (qp J (qg J (qp J (qg J (qp J (qg J (hcall J J J (CF_c x.to (fun a=>!within a (m - 1)) N65_ [.ptr _ 0] J _ (fun a _=>right2_c _ a m _ (upd_same _ _ _)) z2) ?_))))))))
 rintro _ _ ⟨rfl,rfl⟩
 rw [any_not]
 refine qb ?_
 rintro (_ | _) h25
 refine qp J (qn (kq4 J) (kq2 J) (ecF J (eskip (sqn (er (hlda J J (lq2 J) (pq2 J (hldo J (upd_same _ _ _) J ?_))))))))
 refine hcall J J J (cnumber_c _ nm _ (shF_ascii _) _ _) ?_
 rintro _ _ ⟨rfl,rfl⟩
 refine qp J (qn (kq1 J) kn (eret (fqr J ?_)))
 rotate_left
 refine qp J (qn (kq4 J) (kq2 J) (ecT J (er (qp J (qn (kq1 J) kn (eret (sqr (fqr J ?_))))))))
 rotate_left
 refine pq2 J (zq4 J (qp J (qn (kq4 J) (kq2 J) (ecT J (er (qp J (qn (kq1 J) kn (eret (sqr (fqr J ?_))))))))))
 rotate_left
 refine qp J (zq4 J (pq2 J (zq4 J (qp J (qn (kq4 J) (kq2 J) (ecT J (er (qp J (qn (kq1 J) kn (eret (sqr (fqr J ?_))))))))))))
 rotate_left
 refine qp J (qn (kq4 J) (kq2 J) (ecT J (er (qp J (qn (kq1 J) kn (eret (sqr (fqr J ?_))))))))
 rotate_left
 refine qp J (zq3 J (qp J (qn (kq4 J) (kq2 J) (ecT J (er (qp J (qn (kq1 J) kn (eret (sqr (fqr J ?_))))))))))
 rotate_left
 intro hj
 rw [List.drop_zero] at hj
 refine bqr (sqr (fqr J ?_))
 rotate_left
 refine qp J (qn (kq3 J) (kq1 J) (ecT J (er (qp J (qn (kq1 J) kn (eret (sqr (fqr J ?_))))))))
 rotate_left
 refine qp J (zq3 J (qp J (qn (kq3 J) (kq1 J) (ecT J (er (qp J (qn (kq1 J) kn (eret (sqr (fqr J ?_))))))))))
 rotate_left
 all_goals
  refine ⟨congrArg (fun x=>[B x]) ?_,EM.new⟩
  first
  | (simp_all [rightOk,regsOk,addrsOk,mostP,within,-List.all_eq_true,-List.all_eq_false] <;> (try split) <;> intros <;> first | omega | (simp_all;done) | (simp_all;omega))
end Go.Sim.W
namespace Go.Sim.W
open Go Go.Sim
theorem ck_l1 (c:Code) (N:Int) (l:List Int) (i:Nat) (hi:i ≤ l.length) (hs:l.length ≤ 2 ^ 40) {n:Nat} {v:Nat → Bool} {D:List (Nat × List AV)} {S:Sg} {Q:Ex → Fr → Prop}
 (hX:∀ j,addrsOk N (l.drop i)=true → Q (.exit 0) ⟨upd (upd (upd (upd (upd (upd ((fun _=>none)) 48 (some (.val (B false)))) 47 (some (.val (I j)))) 46 (some (.val (I (l.map I).length)))) 45 (some (.val (.slice .none 1 (l.map I))))) 3 (some (.val (I N)))) 1 (some (.loc 1 0)),upd ((fun _=>none)) 1 (some (c.cs)),n,v,D,S⟩) (hR:addrsOk N (l.drop i)=false → Q .ret ⟨upd ((fun _=>none)) 2 (some (.val (I 150))),(fun _=>none),n,v,D,S⟩):EX (callL p) (.loop F22_l1) ⟨upd (upd (upd (upd (upd ((fun _=>none)) 47 (some (.val (I i)))) 46 (some (.val (I (l.map I).length)))) 45 (some (.val (.slice .none 1 (l.map I))))) 3 (some (.val (I N)))) 1 (some (.loc 1 0)),upd ((fun _=>none)) 1 (some (c.cs)),n,v,D,S⟩ Q:=by
 refine eloop (er (qp J (qb ?_)))
 rintro (_ | _) h1
 ·refine qn (kq6 J) (kq1 J) (eseq (ecF J (eexit (sqx ?_))))
  exact hX _ (by rw [List.drop_eq_nil_of_le (by simp at h1 ⊢;omega)];rfl)
 refine qn (kq6 J) (kq1 J) (eseq (ecT J (eskip (sqn (eseq (eblock (er ?_)))))))
 have hlt:i < l.length:=by simpa using h1
 obtain ⟨a,ha⟩:=get_of_lt hlt
 have hd:=drop_cons ha
 refine hia (y:=I a) rfl rfl (by omega) (by simp [ha]) rfl (qp rfl (qp rfl (qk (kc rfl (kc rfl (kc rfl (kc rfl (kc rfl (kc rfl kn)))))) (kc rfl kn) (sqn (eseq (ereg (qp rfl (qp rfl (qb ?_)))))))))
 rintro (_ | _) h2
 ·refine qp J (qg J (qp J (qg J (qp J (qg J (qp J (qb ?_)))))))
  rintro (_ | _) h3
  ·refine qp J (qn (kq6 J) (kq1 J) (ecF J (eskip (bqn (sqn (ereg (hadd J J (i64w (by omega)) (qp J (qk (kq5 J) (kq1 J) ?_)))))))))
   exact ck_l1 c N l (i + 1) (by omega) hs (fun j h=>hX j (by rw [hd];simp_all [addrsOk,within] <;> omega)) (fun h=>hR (by rw [hd];simp_all [addrsOk,within] <;> omega))
  refine qp J (qn (kq6 J) (kq1 J) (ecT J (er (qp J (qn (kq1 J) kn (eret (bqr (sqr ?_))))))))
  exact hR (by rw [hd];simp_all [addrsOk,within] <;> omega)
 refine qp J (zq3 J (qp J (qn (kq6 J) (kq1 J) (ecT J (er (qp J (qn (kq1 J) kn (eret (bqr (sqr ?_))))))))))
 exact hR (by rw [hd];simp_all [addrsOk,within] <;> omega)
termination_by l.length - i
decreasing_by all_goals omega
theorem ck_l2 (N:Int) (l:List Instr) (hr:∀ x ∈ l,x.regs.length ≤ 2 ^ 40) (ht:∀ x ∈ l,x.to.length ≤ 2 ^ 40) (i:Nat) (hi:i ≤ l.length) (hs:l.length ≤ 2 ^ 40) {n:Nat} {v:Nat → Bool} {D:List (Nat × List AV)} {S:Sg} {Q:Ex → Fr → Prop}
 (hX:∀ j S',(l.drop i).all (fun x=>rightOk x N)=true → EM S S' → Q (.exit 2) ⟨upd (upd (upd (upd (upd ((fun _=>none)) 63 (some (.val (B false)))) 62 (some (.val (I j)))) 61 (some (.val (I (l.map Instr.enc).length)))) 60 (some (.val (.slice .none 7 (l.map Instr.enc))))) 3 (some (.val (I N))),(fun _=>none),n,v,D,S'⟩) (hR:∀ S',(l.drop i).all (fun x=>rightOk x N)=false → EM S S' → Q .ret ⟨upd ((fun _=>none)) 2 (some (.val (I 150))),(fun _=>none),n,v,D,S'⟩):EX (callL p) (.loop F22_l2) ⟨upd (upd (upd (upd ((fun _=>none)) 62 (some (.val (I i)))) 61 (some (.val (I (l.map Instr.enc).length)))) 60 (some (.val (.slice .none 7 (l.map Instr.enc))))) 3 (some (.val (I N))),(fun _=>none),n,v,D,S⟩ Q:=by
 refine eloop (er (qp J (qb ?_)))
 rintro (_ | _) h1
 ·refine qn (kq5 J) kn (eseq (ecF J (eexit (sqx ?_))))
  exact hX _ _ (by rw [List.drop_eq_nil_of_le (by simp at h1 ⊢;omega)];rfl) (EM.refl _)
 refine qn (kq5 J) kn (eseq (ecT J (eskip (sqn (eseq (eblock (er ?_)))))))
 have hlt:i < l.length:=by simpa using h1
 obtain ⟨a,ha⟩:=get_of_lt hlt
 have hd:=drop_cons ha
 refine hia (y:=.agg a.cs) rfl rfl (by omega) (by simp [ha,Instr.enc]) rfl (hlda rfl rfl (lc rfl (lc rfl (lc rfl (lc rfl (lc rfl (lc rfl (lc rfl (ln rfl)))))))) (hal (dc (dc (dc (dc (dc (dc (dc dn rfl) rfl) rfl) rfl) rfl) rfl) rfl) (hstl rfl rfl rfl rfl (Nlb rfl) (lc rfl (lc rfl (lc rfl (lc rfl (lc rfl (lc rfl (lc rfl (ln rfl)))))))) (qk (kc rfl (kc rfl (kc rfl (kc rfl (kc rfl kn))))) (kc rfl kn) (sqn (eseq (ereg (hlda rfl rfl (lc rfl (lc rfl (lc rfl (lc rfl (lc rfl (lc rfl (lc rfl (ln rfl)))))))) (qp rfl (hcall rfl rfl rfl (right_c _ a N (hr a (Lmg ha)) (ht a (Lmg ha))) ?_))))))))))
 rintro _ S1 ⟨rfl,hE⟩
 refine qb ?_
 rintro (_ | _) h2
 ·refine qp J (qn (kq5 J) kn (ecT J (er (qp J (qn (kq1 J) kn (eret (bqr (sqr ?_))))))))
  exact hR _ (by rw [hd];simp_all) hE
 refine qp J (qn (kq5 J) kn (ecF J (eskip (bqn (sqn (ereg (hadd J J (i64w (by omega)) (qp J (qk (kq4 J) kn ?_)))))))))
 exact ck_l2 N l hr ht (i + 1) (by omega) hs (fun j S' h e=>hX j S' (by rw [hd];simp_all) (hE.trans e)) (fun S' h e=>hR S' (by rw [hd];simp_all) (hE.trans e))
termination_by l.length - i
decreasing_by all_goals omega
theorem check_c0 (s:Sg) (c:Code) (z:CodeSz c):HC p N22_ [.agg c.cs] s (fun r s'=>r=[I (if codeOk c=true then 0 else 150)] ∧ EM s s'):=by
 refine hcf J f22_ J ?_
 simp only [chainOf]
 refine er (hbox (dc dn J) J (lq3 J) (qp J (qn (kq1 J) (kq1 J) (er (pq4 J (qn (kq2 J) (kq1 J) (eseq (er (pq3 J (qb ?_))))))))))
 rintro (_ | _) h1
 refine qp J (qg J (qp J (qg J (qp J (qg J (qp J (qb ?_)))))))
 rintro (_ | _) h2
 refine pq2 J (qg J (qp J (qg J (qp J (qb ?_)))))
 rintro (_ | _) h3
 refine pq2 J (qg J (qp J (qg J (qp J (qb ?_)))))
 rintro (_ | _) h4
 refine pq2 J (qg J (qp J (qg J (qp J (qg J (qp J (qg J (qp J (qb ?_)))))))))
 rintro (_ | _) h5
 refine pq2 J (qg J (qp J (qg J (qp J (qg J (qp J (qg J ?_)))))))
 have hl1:1 ≤ c.ins.length:=by simp_all;omega
 obtain ⟨y,hy⟩:=get_of_lt (l:=c.ins) (i:=c.ins.length - 1) (by omega)
 have hlo:lastOp c.ins=y.op:=by rw [lastOp,Lgm,hy];rfl
 refine hsub rfl rfl (i64w (by have:=z.il;simp;omega)) (qg rfl ?_)
 refine hia (y:=.agg y.cs) rfl rfl (by simp;omega) (by rw [Lgm,show (((c.ins.map Instr.enc).length:Int) - 1).toNat=c.ins.length - 1 from by simp,hy];rfl) rfl ?_
 refine qg J (qp J (qg J (qp J (qg J (hcall J J J (cends_c _ _) ?_)))))
 rintro _ _ ⟨rfl,rfl⟩
 refine qb ?_
 rintro (_ | _) h6
 refine qg J (pq2 J (qn (kq3 J) (kq1 J) (ecT J (er (qp J (qn (kq1 J) kn (eret (sqr (fqr J ?_)))))))))
 rotate_left
 refine qg J (pq2 J (qn (kq3 J) (kq1 J) (ecF J (eskip (sqn (eseq (er (pq4 J (qn (kq5 J) (kq1 J) (eblock ?_))))))))))
 refine ck_l1 c _ c.entries 0 (by omega) z.el ?_ ?_
 intro j hj
 rw [List.drop_zero] at hj
 refine bqx (sqn (eseq (er (pq4 J (qn (kq4 J) kn (eblock ?_))))))
 refine ck_l2 _ c.ins z.rl z.tl 0 (by omega) z.il ?_ ?_
 intro j2 S2 hk hE
 rw [List.drop_zero] at hk
 refine bqx (sqn (er (qp J (qn (kq1 J) kn (eret (fqr J ?_))))))
 rotate_left
 intro S2 hk hE
 rw [List.drop_zero] at hk
 refine bqr (sqr (fqr J ?_))
 rotate_left
 intro hj
 rw [List.drop_zero] at hj
 refine bqr (sqr (fqr J ?_))
 rotate_left
 refine pq2 J (zq9 J (qp J (qn (kq3 J) (kq1 J) (ecT J (er (qp J (qn (kq1 J) kn (eret (sqr (fqr J ?_))))))))))
 rotate_left
 refine pq2 J (zq4 J (pq2 J (zq9 J (qp J (qn (kq3 J) (kq1 J) (ecT J (er (qp J ?_))))))))
 refine qn (kq1 J) kn (eret (sqr (fqr J ?_)))
 rotate_left
 refine pq2 J (zq2 J (pq2 J (zq4 J (pq2 J (zq9 J (qp J (qn (kq3 J) (kq1 J) ?_)))))))
 refine ecT J (er (qp J (qn (kq1 J) kn (eret (sqr (fqr J ?_))))))
 rotate_left
 refine pq2 J (zq2 J (pq2 J (zq2 J (pq2 J (zq4 J (pq2 J (zq8 J ?_)))))))
 refine zq1 J (qp J (qn (kq3 J) (kq1 J) (ecT J (er (qp J (qn (kq1 J) kn (eret (sqr (fqr J ?_)))))))))
 rotate_left
 refine qp J (zq3 J (pq2 J (zq2 J (pq2 J (zq2 J (pq2 J (zq4 J (pq2 J (zq4 J ?_)))))))))
 refine zq5 J (qp J (qn (kq3 J) (kq1 J) (ecT J (er (qp J (qn (kq1 J) kn (eret (sqr (fqr J ?_)))))))))
 rotate_left
 all_goals
  have hall:(c.ins.all fun x=>rightOk x c.ins.length)=c.ins.all fun x=>instrOk x c.ins.length:=by simp only [right_eq]
  first
  | (rw [if_neg (by simp_all [codeOk,within,-List.all_eq_true,-List.all_eq_false] <;> omega)];first | exact ⟨rfl,EM.refl _⟩ | exact ⟨rfl,hE⟩)
  | (rw [if_pos (by simp_all [codeOk,within,-List.all_eq_true,-List.all_eq_false] <;> omega)];exact ⟨rfl,hE⟩)
end Go.Sim.W
namespace Go.Sim.W
open Go Go.Sim
def w64 (x:Int):Int:=IntKind.i64.wrap x
theorem hquo {c:Caller} {l:List AIns} {E:Nat → Option TV} {L:Nat → Option (List AV)} {n:Nat} {v:Nat → Bool} {D:List (Nat × List AV)} {S:Sg} {Q:Fr → Prop} {d:Nat} {x y:AO} {a b:Int} (h1:evV E x=some (I a)) (h2:evV E y=some (I b)) (h3:b ≠ 0)
 (k:HL c l ⟨upd E d (some (.val (I (w64 (a.tdiv b))))),L,n,v,D,S⟩ Q):HL c (⟨some d,none,.bin .quo x y⟩ :: l) ⟨E,L,n,v,D,S⟩ Q :=
 hop (by simp only [ins,run1,aop,h1,h2,Obs,abin,if_true,intOp,if_neg h3];rfl) k
def quoS (a b:Int):Int:=if b=0 then 0 else w64 (a.tdiv b)
def resS (op a b:Int):Int:=if op=0 then w64 (a + b) else if op=1 then w64 (a - b) else if op=2 then w64 (a * b) else if op=3 then quoS a b else if op=4 then w64 (a - w64 (b * quoS a b)) else if op=5 then (if a=b then 1 else 0) else if a < b then 1 else 0
theorem result_c (s:Sg) (op a b:Int):HC p N71_ [I op,I a,I b] s (fun r s'=>r=[I (resS op a b)] ∧ s'=s):=by
 refine hcf J f71_ J ?_
 simp only [chainOf]
 refine er (qp J (qn (kq3 J) kn (er (qp J (qn (kq4 J) kn (eseq (er (pq2 J (qb ?_)))))))))
 rintro (_ | _) h1
 refine qn (kq5 J) kn (ecF J (eskip (sqn (er (qp J (qn (kq4 J) kn (eseq (er (qp J (qn (kq4 J) kn (eblock (er (qp J (qb ?_))))))))))))))
 rintro (_ | _) h2
 refine qp J (qn (kq5 J) kn (ecF J (er (qp J (qb ?_)))))
 rintro (_ | _) h3
 refine qp J (qn (kq5 J) kn (ecF J (er (qp J (qb ?_)))))
 rintro (_ | _) h4
 refine qp J (qn (kq5 J) kn (ecF J (er (qp J (qb ?_)))))
 rintro (_ | _) h5
 refine qp J (qn (kq5 J) kn (ecF J (er (qp J (qb ?_)))))
 rintro (_ | _) h6
 refine qp J (qn (kq5 J) kn (ecF J (er (qp J (qb ?_)))))
 rintro (_ | _) h7
 refine qp J (qn (kq3 J) kn (ecF J (ereg (pq3 J (qb ?_)))))
 rintro (_ | _) h8
 refine qp J (qk (kq1 J) kn (bqn (sqn (eseq (er (qp J (qn (kq1 J) kn (ecF J (eskip (sqn (er (qp J (qn (kq1 J) kn (eret (fqr J ?_)))))))))))))))
 refine ⟨congrArg (fun x=>[I x]) ?_,J⟩
 simp_all [resS,quoS,w64] <;> omega
 refine qp J (qk (kq1 J) kn (bqn (sqn (eseq (er (qp J (qn (kq1 J) kn (ecT J (er (qp J (qn (kq1 J) kn (eret (sqr (fqr J ?_))))))))))))))
 refine ⟨congrArg (fun x=>[I x]) ?_,J⟩
 simp_all [resS,quoS,w64] <;> omega
 refine qp J (qn (kq3 J) kn (ecT J (ereg (pq3 J (qb ?_)))))
 rintro (_ | _) h9
 refine qp J (qk (kq1 J) kn (bqn (sqn (eseq (er (qp J (qn (kq1 J) kn (ecF J (eskip (sqn (er (qp J (qn (kq1 J) kn (eret (fqr J ?_)))))))))))))))
 refine ⟨congrArg (fun x=>[I x]) ?_,J⟩
 simp_all [resS,quoS,w64] <;> omega
 refine qp J (qk (kq1 J) kn (bqn (sqn (eseq (er (qp J (qn (kq1 J) kn (ecT J (er (qp J (qn (kq1 J) kn (eret (sqr (fqr J ?_))))))))))))))
 refine ⟨congrArg (fun x=>[I x]) ?_,J⟩
 simp_all [resS,quoS,w64] <;> omega
 refine qp J (qn (kq5 J) kn (ecT J (er (pq6 J (qn (kq1 J) kn (eret (bqr (sqr (fqr J ?_)))))))))
 refine ⟨congrArg (fun x=>[I x]) ?_,J⟩
 simp_all [resS,quoS,w64] <;> omega
 refine qp J (qn (kq5 J) kn (ecT J (er (pq2 J (qn (kq1 J) kn (eret (bqr (sqr (fqr J ?_)))))))))
 refine ⟨congrArg (fun x=>[I x]) ?_,J⟩
 simp_all [resS,quoS,w64] <;> omega
 rotate_left
 rotate_left
 rotate_left
 refine qn (kq5 J) kn (ecT J (ereg (pq2 J (hquo J J (by simp_all) (qp J (qn (kq4 J) kn (er (qp J (qn (kq4 J) kn (eseq (er (qp J (qn (kq4 J) kn (eblock (er ?_)))))))))))))))
 refine qp J (qb ?_)
 rintro (_ | _) h10
 refine qp J (qn (kq5 J) kn (ecF J (er (qp J (qb ?_)))))
 rintro (_ | _) h11
 refine qp J (qn (kq5 J) kn (ecF J (er (qp J (qb ?_)))))
 rintro (_ | _) h12
 refine qp J (qn (kq5 J) kn (ecF J (er (qp J (qb ?_)))))
 rintro (_ | _) h13
 refine qp J (qn (kq5 J) kn (ecF J (er (qp J (qb ?_)))))
 rintro (_ | _) h14
 refine qp J (qn (kq5 J) kn (ecF J (er (qp J (qb ?_)))))
 rintro (_ | _) h15
 refine qp J (qn (kq3 J) kn (ecF J (ereg (pq3 J (qb ?_)))))
 rintro (_ | _) h16
 refine qp J (qk (kq1 J) kn (bqn (sqn (eseq (er (qp J (qn (kq1 J) kn (ecF J (eskip (sqn (er (qp J (qn (kq1 J) kn (eret (fqr J ?_)))))))))))))))
 refine ⟨congrArg (fun x=>[I x]) ?_,J⟩
 simp_all [resS,quoS,w64] <;> omega
 refine qp J (qk (kq1 J) kn (bqn (sqn (eseq (er (qp J (qn (kq1 J) kn (ecT J (er (qp J (qn (kq1 J) kn (eret (sqr (fqr J ?_))))))))))))))
 refine ⟨congrArg (fun x=>[I x]) ?_,J⟩
 simp_all [resS,quoS,w64] <;> omega
 refine qp J (qn (kq3 J) kn (ecT J (ereg (pq3 J (qb ?_)))))
 rintro (_ | _) h17
 refine qp J (qk (kq1 J) kn (bqn (sqn (eseq (er (qp J (qn (kq1 J) kn (ecF J (eskip (sqn (er (qp J (qn (kq1 J) kn (eret (fqr J ?_)))))))))))))))
 refine ⟨congrArg (fun x=>[I x]) ?_,J⟩
 simp_all [resS,quoS,w64] <;> omega
 refine qp J (qk (kq1 J) kn (bqn (sqn (eseq (er (qp J (qn (kq1 J) kn (ecT J (er (qp J (qn (kq1 J) kn (eret (sqr (fqr J ?_))))))))))))))
 refine ⟨congrArg (fun x=>[I x]) ?_,J⟩
 simp_all [resS,quoS,w64] <;> omega
 refine qp J (qn (kq5 J) kn (ecT J (er (pq6 J (qn (kq1 J) kn (eret (bqr (sqr (fqr J ?_)))))))))
 refine ⟨congrArg (fun x=>[I x]) ?_,J⟩
 simp_all [resS,quoS,w64] <;> omega
 refine qp J (qn (kq5 J) kn (ecT J (er (pq2 J (qn (kq1 J) kn (eret (bqr (sqr (fqr J ?_)))))))))
 refine ⟨congrArg (fun x=>[I x]) ?_,J⟩
 simp_all [resS,quoS,w64] <;> omega
 rotate_left
 rotate_left
 rotate_left
 all_goals
  refine qp J (qn (kq5 J) kn (ecT J (er (pq4 J (qn (kq1 J) kn (eret (bqr (sqr (fqr J ?_)))))))))
  refine ⟨congrArg (fun x=>[I x]) ?_,J⟩
  simp_all [resS,quoS,w64] <;> omega
end Go.Sim.W
namespace Go.Sim.W
open Go Go.Sim
abbrev nilL:AV:=.lit (.slice none 0 0)
def NL (v:AV) (l:List Int) (S:Sg):Prop:=(l=[] ∧ v=nilL) ∨ (∃ g,v=.ms g 0 l.length 1 ∧ S.mu g=some (l.map I) ∧ g < S.mn) ∨ v=ints l
theorem NL.len {v:AV} {l:List Int} {S:Sg} (h:NL v l S):lenOfA false v=some (I l.length):=by
 rcases h with ⟨rfl,rfl⟩ | ⟨g,rfl,_⟩ | rfl
 ·rfl
 ·rfl
 simp [lenOfA,ints,SL,I]
theorem hlenA {c:Caller} {l:List AIns} {E:Nat → Option TV} {L:Nat → Option (List AV)} {n:Nat} {v:Nat → Bool} {D:List (Nat × List AV)} {S:Sg} {Q:Fr → Prop} {d:Nat} {st:Bool} {x:AO} {a y:AV} (h1:evV E x=some a) (h2:lenOfA st a=some y) (k:HL c l ⟨upd E d (some (.val y)),L,n,v,D,S⟩ Q):HL c (⟨some d,none,.len st x⟩ :: l) ⟨E,L,n,v,D,S⟩ Q :=
 hop (by simp only [ins,run1,aop,h1,h2,Obs];rfl) k
theorem NL.at_ {v:AV} {l:List Int} {S:Sg} (h:NL v l S) {i:Nat} {a:Int} (ha:l[i]?=some a):∃ q,iaOf 1 (i:Int) v=some q ∧ ∀ E L n w D,ldAt ⟨E,L,n,w,D,S⟩ true none (.val q)=some (I a):=by
 have hi:i < l.length:=by
  rcases Nat.lt_or_ge i l.length with h | h
  ·exact h
  rw [List.getElem?_eq_none h] at ha;cases ha
 rcases h with ⟨rfl,rfl⟩ | ⟨g,rfl,hg,_⟩ | rfl
 ·cases hi
 ·refine ⟨.mp g (0 + i * 1),?_,fun E L n w D=>?_⟩
  ·simp only [iaOf]
   rw [if_pos ⟨trivial,by omega,by simpa using hi⟩]
   simp
  simp only [ldAt,if_true,hg,Obs,rd]
  simp [ha]
 refine ⟨.cptr [I a] 0,?_,fun E L n w D=>J⟩
 simp only [iaOf]
 simp [ha,I,AV.cells]
theorem hiaN {c:Caller} {l:List AIns} {E:Nat → Option TV} {L:Nat → Option (List AV)} {n:Nat} {v:Nat → Bool} {D:List (Nat × List AV)} {S:Sg} {Q:Fr → Prop} {d:Nat} {x i:AO} {a q:AV} {j:Int} (h1:evV E x=some a) (h2:evV E i=some (I j)) (h3:iaOf 1 j a=some q)
 (k:HL c l ⟨upd E d (some (.val q)),L,n,v,D,S⟩ Q):HL c (⟨some d,none,.ia 1 x i⟩ :: l) ⟨E,L,n,v,D,S⟩ Q :=
 hop (by simp only [ins,run1,aop,h1,h2,Obs,asN,I,h3];rfl) k
theorem hldN {c:Caller} {l:List AIns} {E:Nat → Option TV} {L:Nat → Option (List AV)} {n:Nat} {v:Nat → Bool} {D:List (Nat × List AV)} {S:Sg} {Q:Fr → Prop} {d:Nat} {a:AO} {q y:AV} (h1:ev E a=some (.val q)) (h2:∀ E L n w D,ldAt ⟨E,L,n,w,D,S⟩ true none (.val q)=some y)
 (k:HL c l ⟨upd E d (some (.val y)),L,n,v,D,S⟩ Q):HL c (⟨some d,none,.ld true none a⟩ :: l) ⟨E,L,n,v,D,S⟩ Q :=
 hop (by simp only [ins,run1,aop,h1,h2,Obs];rfl) k
def placeF (x:Int):Nat → List Int → Int
 | _,[]=>-1
 | i,a :: l=>if a=x then (i:Int) else placeF x (i + 1) l
def NM (v:AV) (l:List Int) (S:Sg):Prop:=(l=[] ∧ v=nilL) ∨ ∃ g,v=.ms g 0 l.length 1 ∧ S.mu g=some (l.map I) ∧ g < S.mn
theorem NM.nl {v:AV} {l:List Int} {S:Sg} (h:NM v l S):NL v l S:=h.imp id .inl
theorem NM.er {v:AV} {l:List Int} {S:Sg} (h:NM v l S):v.er=v:=by
 rcases h with ⟨_,rfl⟩ | ⟨g,rfl,_⟩ <;> rfl
structure KL (X:List Nat) (S S':Sg):Prop where
 e:Ext S S'
 mn:S.mn ≤ S'.mn
 mu:∀ g,g < S.mn → g ∉ X → S'.mu g=S.mu g
theorem KL.refl (X:List Nat) (S:Sg):KL X S S:=⟨Ext.refl S,Nat.le_refl _,fun _ _ _=>rfl⟩
theorem KL.trans {X Y:List Nat} {A B C:Sg} (h:KL X A B) (k:KL Y B C) (hY:∀ g ∈ Y,g ∈ X ∨ A.mn ≤ g):KL X A C :=
 ⟨h.e.trans k.e,Nat.le_trans h.mn k.mn,fun g hg hx=>(k.mu g (Nat.lt_of_lt_of_le hg h.mn) fun hy=>(hY g hy).elim hx fun h2=>by omega).trans (h.mu g hg hx)⟩
theorem appm_n {S:Sg} {u:AV} {l:List Int} (x:Int) (hu:NM u l S) (hl:l.length ≤ 2 ^ 40) :
 ∃ u' S',wopOf (.appm 1 8) S [u,.slice .full 1 [I x]]=some (u',S') ∧ NM u' (l ++ [x]) S' ∧ KL (tk u) S S' ∧ ∀ g ∈ tk u',S.mn ≤ g:=by
 have hsrc:srcOf 1 S (.slice .full 1 [I x])=some (1,[I x]):=rfl
 rcases hu with ⟨rfl,rfl⟩ | ⟨g,rfl,h1,h2⟩
 ·refine ⟨.ms S.mn 0 1 1,{ S with mu:=upd S.mu S.mn (some [I x]),mn:=S.mn + 1 },?_,.inr ⟨S.mn,rfl,upd_same _ _ _,Nat.lt_succ_self _⟩,⟨⟨Nat.le_refl _,fun _ _=>rfl,Nat.le_refl _,fun _ _=>rfl,rfl⟩,Nat.le_succ _,fun g hg _=>upd_ne _ _ (by omega)⟩,fun g hg=>by rw [List.mem_singleton.1 hg];exact Nat.le_refl _⟩
  simp only [wopOf,nilS,appmOf,hsrc,Obs,if_true]
  rw [if_pos (by decide),if_neg (by decide)]
 refine ⟨.ms S.mn 0 (l.length + 1) 1,{ S with mu:=upd (upd S.mu g none) S.mn (some (l.map I ++ [I x])),mn:=S.mn + 1 },?_,.inr ⟨S.mn,by simp,?_,Nat.lt_succ_self _⟩,⟨⟨Nat.le_refl _,fun _ _=>rfl,Nat.le_refl _,fun _ _=>rfl,rfl⟩,Nat.le_succ _,fun g' hg hx=>?_⟩,fun g hg=>by rw [List.mem_singleton.1 hg];exact Nat.le_refl _⟩
 ·simp only [wopOf,nilS,appmOf,hsrc,Obs,h1]
  rw [if_pos (by simp),if_pos ⟨by simp,by omega⟩,if_neg (by decide)]
 ·show upd (upd S.mu g none) S.mn _ S.mn=_
  rw [upd_same]
  simp
 show upd (upd S.mu g none) S.mn _ g'=_
 rw [upd_ne _ _ (by omega),upd_ne _ _ (by simpa [tk] using hx)]
def foundF (l:List Int):List Word → List Int
 | []=>l
 | w :: ws=>foundF (if w.ref=true ∧ placeF w.n 0 l < 0 then l ++ [w.n] else l) ws
abbrev words (l:List Word):AV:=SL 2 (l.map Word.enc)
structure HOb where
 at_:Int
 tag:Int
 fs:List Word
def HOb.cs (o:HOb):List AV:=[I o.at_,I o.tag,words o.fs]
def HOb.enc (o:HOb):AV:=.agg o.cs
structure RH where
 size:Int
 obs:List HOb
def RH.cs (h:RH):List AV:=[I h.size,SL 3 (h.obs.map HOb.enc)]
def findF (x:Int):Nat → List HOb → Int
 | _,[]=>-1
 | i,o :: l=>if o.at_=x then (i:Int) else findF x (i + 1) l
def validF (obs:List HOb) (l:List Word):Bool:=l.all fun w=>!(w.ref && decide (findF w.n 0 obs < 0))
def endF (obs:List HOb):Int:=match obs.getLast? with
 | none=>0
 | some o=>o.at_ + (1 + o.fs.length)
end Go.Sim.W
