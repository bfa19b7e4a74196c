/-
  A part of a proof: see the last text of this claim.
-/
import Derived.Test.YtfejjomhjeioaaaGreatDoorPG
set_option linter.unusedVariables false
set_option linter.unusedSimpArgs false
namespace Go.Sim.Kd
open Go Go.Sim
abbrev bytes (s:ByteArray):List UInt8:=s.data.toList
def lowB (b:UInt8):Bool:=decide ((b.toNat:Int) ≥ 97) && decide ((b.toNat:Int) ≤ 122)
def capB (b:UInt8):Bool:=decide ((b.toNat:Int) ≥ 65) && decide ((b.toNat:Int) ≤ 90)
def isLow (b:UInt8):Bool:=lowB b || (decide ((b.toNat:Int) ≥ 48) && decide ((b.toNat:Int) ≤ 57))
def headIs (f:UInt8 → Bool) (s:ByteArray):Bool:=match bytes s with
 | b :: _=>f b
 | []=>false
def resWords:List ByteArray:=[⟨#[100,97,116,97]⟩,⟨#[99,111,100,97,116,97]⟩,⟨#[102,117,110]⟩,⟨#[105,110,116]⟩,⟨#[105,102,122]⟩,⟨#[99,97,115,101]⟩,⟨#[99,111,99,97,115,101]⟩,⟨#[108,101,116]⟩,⟨#[101,109,105,116]⟩,⟨#[108,97,98,101,108]⟩,⟨#[103,111,116,111]⟩]
def reserved (s:ByteArray):Bool:=resWords.any fun w=>decide (s=w)
def nameOk (s:ByteArray):Bool:=decide (1 ≤ s.size) && decide (s.size ≤ 10) && headIs lowB s && ((bytes s).drop 1).all isLow && !reserved s
def xnameOk (s:ByteArray):Bool:=decide (1 ≤ s.size) && decide (s.size ≤ 10) && headIs capB s && ((bytes s).drop 1).all isLow
theorem byte_at {s:ByteArray} {i:Nat} (h:i < s.size):∃ b,s.data.toList[i]?=some b:=⟨_,List.getElem?_eq_getElem (by simpa using h)⟩
theorem headIs_of {f:UInt8 → Bool} {s:ByteArray} {b:UInt8} (h:s.data.toList[0]?=some b):headIs f s=f b:=by
 unfold headIs
 show (match s.data.toList with
  | b :: _=>f b
  | []=>false)=f b
 cases hs:s.data.toList with
 | nil=>rw [hs] at h;cases h
 | cons x l=>rw [hs] at h;cases h;rfl
theorem Lower_c (s:Sg) (b:UInt8):HC p N151_ [.lit (.int .u8 b.toNat)] s (fun r s'=>r=[B (isLow b)] ∧ s'=s):=by
 refine hcf J f151_ J ?_
 simp only [chainOf]
 refine er (qp J (qn (kq1 J) kn (er (pq2 J (qb ?_)))))
 rintro (_ | _) h1
 refine qp J (zq2 J (pq2 J (qg J (qp J (qg J (qp J (qb ?_)))))))
 rintro (_ | _) h2
 refine qg J (qp J (zq2 J (qg J (pq3 J (qn (kq1 J) kn (eret (fqr J ?_)))))))
 rotate_left
 refine qg J (qp J (qg J (qp J (qg J (qp J (qg J (pq3 J (qn (kq1 J) kn (eret (fqr J ?_))))))))))
 rotate_left
 refine qp J (qg J (qp J (qg J (qp J (qb ?_)))))
 rintro (_ | _) h3
 refine pq2 J (qg J (qp J (qg J (qp J (qb ?_)))))
 rintro (_ | _) h4
 refine qg J (qp J (zq2 J (qg J (pq3 J (qn (kq1 J) kn (eret (fqr J ?_)))))))
 rotate_left
 refine qg J (qp J (qg J (qp J (qg J (qp J (qg J (pq3 J (qn (kq1 J) kn (eret (fqr J ?_))))))))))
 rotate_left
 refine pq2 J (zq6 J (pq2 J (qn (kq1 J) kn (eret (fqr J ?_)))))
 rotate_left
 all_goals
  refine ⟨?_,rfl⟩;simp_all [AV.ers,AV.er,isLow,lowB] <;> omega
theorem lower_c (s:Sg) (b:UInt8):HC p N103_ [.lit (.int .u8 b.toNat)] s (fun r s'=>r=[B (lowB b)] ∧ s'=s):=by
 refine hcf J f103_ J ?_
 simp only [chainOf]
 refine er (qp J (qn (kq1 J) kn (er (pq2 J (qb ?_)))))
 rintro (_ | _) h1
 ·refine qp J (zq2 J (pq2 J (qn (kq1 J) kn (eret (fqr J ?_)))))
  refine ⟨?_,rfl⟩;simp_all [AV.ers,AV.er,isLow,lowB] <;> omega
 refine qp J (qg J (qp J (qg J (pq3 J (qn (kq1 J) kn (eret (fqr J ?_)))))))
 refine ⟨?_,rfl⟩;simp_all [AV.ers,AV.er,isLow,lowB] <;> omega
theorem rest_l (s:ByteArray) (i:Nat) (hi:i ≤ s.size) (hs:s.size ≤ 2 ^ 40) {n:Nat} {v:Nat → Bool} {D:List (Nat × List AV)} {S:Sg} {Q:Ex → Fr → Prop}
 (hX:∀ j,((bytes s).drop i).all isLow=true → Q (.exit 0) ⟨uv (uv (uv e0 7 (B false)) 3 (I j)) 0 (Str s),(fun _=>none),n,v,D,S⟩) (hR:((bytes s).drop i).all isLow=false → Q .ret ⟨uv e0 2 (B false),(fun _=>none),n,v,D,S⟩):EX (callL p) (.loop F119_l1) ⟨uv (uv e0 3 (I i)) 0 (Str s),(fun _=>none),n,v,D,S⟩ Q:=by
 refine eloop (eseq (er (pq4 J (qb ?_))))
 rintro (_ | _) h1
 ·refine qn (kq3 J) kn (ecF J (eexit (sqx ?_)))
  exact hX _ (by rw [List.drop_eq_nil_of_le (by simp at h1 ⊢;omega)];rfl)
 refine qn (kq3 J) kn (ecT J (eskip (sqn (eseq (eblock (er (pq2 J ?_)))))))
 obtain ⟨b,hb⟩:=byte_at (s:=s) (i:=i) (by simpa using h1)
 refine hixs J J (by omega) (by simpa using hb) (hcall J J J (Lower_c _ _) ?_)
 rintro _ _ ⟨rfl,rfl⟩
 refine qb ?_
 rintro (_ | _) h2
 ·refine qp J (qn (kq3 J) kn (ecT J (er (qp J (qn (kq1 J) kn (eret (bqr (sqr ?_))))))))
  have hf:isLow b=false:=by simp_all
  exact hR (by rw [drop_cons hb];simp_all)
 refine qp J (qn (kq3 J) kn (ecF J (eskip (bqn (sqn (ereg (qp J (hadd J J (i64w (by omega)) (qp J (qk (kq2 J) kn ?_))))))))))
 have hlt:i < s.size:=by simpa using h1
 have hf:isLow b=true:=by simp_all
 exact rest_l s (i + 1) (by omega) hs (fun j h=>hX j (by rw [drop_cons hb];simp_all)) (fun h=>hR (by rw [drop_cons hb];simp_all))
termination_by s.size - i
decreasing_by all_goals omega
theorem rest_c (s:Sg) (x:ByteArray) (hx:1 ≤ x.size) (hs:x.size ≤ 2 ^ 40):HC p N119_ [Str x] s (fun r s'=>r=[B (((bytes x).drop 1).all isLow)] ∧ s'=s):=by
 refine hcf J f119_ J ?_
 simp only [chainOf]
 refine er (qp J (qn (kq1 J) kn (eseq (er (qp J (qn (kq2 J) kn (eblock ?_)))))))
 refine rest_l x 1 hx hs ?_ ?_
 ·intro j ha
  refine bqx (sqn (er (qp J (qn (kq1 J) kn (eret (fqr J ?_))))))
  refine ⟨?_,rfl⟩;simp_all [AV.ers,AV.er]
 intro ha
 refine bqr (sqr (fqr J ?_))
 refine ⟨?_,rfl⟩;simp_all [AV.ers,AV.er]
theorem drest_l (s:ByteArray) (i:Nat) (hi:i ≤ s.size) (hs:s.size ≤ 2 ^ 40) {n:Nat} {v:Nat → Bool} {D:List (Nat × List AV)} {S:Sg} {Q:Ex → Fr → Prop}
 (hX:∀ j,((bytes s).drop i).all isLow=true → Q (.exit 0) ⟨uv (uv (uv e0 7 (B false)) 3 (I j)) 0 (Str s),(fun _=>none),n,v,D,S⟩) (hR:((bytes s).drop i).all isLow=false → Q .ret ⟨uv e0 2 (B false),(fun _=>none),n,v,D,S⟩):EX (callL p) (.loop F104_l1) ⟨uv (uv e0 3 (I i)) 0 (Str s),(fun _=>none),n,v,D,S⟩ Q:=by
 refine eloop (eseq (er (pq4 J (qb ?_))))
 rintro (_ | _) h1
 refine qn (kq3 J) kn (ecF J (eexit (sqx ?_)))
 exact hX _ (by rw [List.drop_eq_nil_of_le (by simp at h1 ⊢;omega)];rfl)
 refine qn (kq3 J) kn (ecT J (eskip (sqn (eseq (eblock (er (pq2 J ?_)))))))
 obtain ⟨b,hb⟩:=byte_at (s:=s) (i:=i) (by simpa using h1)
 refine hixs J J (by omega) (by simpa using hb) (hcall J J J (lower_c _ _) ?_)
 rintro _ _ ⟨rfl,rfl⟩
 refine qb ?_
 rintro (_ | _) h2
 refine pq2 J (qg J (qp J (qg J (qp J (qg J (hixs J J (by omega) (by simpa using hb) (qg J (qp J (qb ?_)))))))))
 rintro (_ | _) h3
 refine qg J (qp J (qg J (qp J (qg J (qp J (qg J (hixs J J (by omega) (by simpa using hb) (qg J (qp J (qb ?_))))))))))
 rintro (_ | _) h4
 refine qg J (pq2 J (qn (kq3 J) kn (ecF J (eskip (bqn (sqn (ereg (qp J (hadd J J (i64w (by omega)) (qp J (qk (kq2 J) kn ?_)))))))))))
 rotate_left
 refine qg J (pq2 J (qn (kq3 J) kn (ecT J (er (qp J (qn (kq1 J) kn (eret (bqr (sqr ?_)))))))))
 have hf:isLow b=false:=by simp_all [isLow] <;> omega
 exact hR (by rw [drop_cons hb];simp_all)
 refine qg J (qp J (zq4 J (qg J (pq2 J (qn (kq3 J) kn (ecT J (er (qp J (qn (kq1 J) kn (eret (bqr (sqr ?_))))))))))))
 have hf:isLow b=false:=by simp_all [isLow] <;> omega
 exact hR (by rw [drop_cons hb];simp_all)
 refine pq2 J (zq10 J (qp J (qn (kq3 J) kn (ecF J (eskip (bqn (sqn (ereg (qp J (hadd J J (i64w (by omega)) (qp J (qk (kq2 J) kn ?_))))))))))))
 rotate_left
 all_goals
  have hlt:i < s.size:=by simpa using h1
  have hf:isLow b=true:=by simp_all [isLow] <;> omega
  exact drest_l s (i + 1) (by omega) hs (fun j h=>hX j (by rw [drop_cons hb];simp_all)) (fun h=>hR (by rw [drop_cons hb];simp_all))
termination_by s.size - i
decreasing_by all_goals omega
theorem drest_c (s:Sg) (x:ByteArray) (hs:x.size ≤ 2 ^ 40):HC p N104_ [Str x] s (fun r s'=>r=[B ((bytes x).all isLow)] ∧ s'=s):=by
 refine hcf J f104_ J ?_
 simp only [chainOf]
 refine er (qp J (qn (kq1 J) kn (eseq (er (qp J (qn (kq2 J) kn (eblock ?_)))))))
 refine drest_l x 0 (by omega) hs ?_ ?_
 ·intro j ha
  refine bqx (sqn (er (qp J (qn (kq1 J) kn (eret (fqr J ?_))))))
  refine ⟨?_,rfl⟩;simp_all [AV.ers,AV.er]
 intro ha
 refine bqr (sqr (fqr J ?_))
 refine ⟨?_,rfl⟩;simp_all [AV.ers,AV.er]
theorem Reserved_l (s:ByteArray) (ws:List ByteArray) (i:Nat) (hi:i ≤ ws.length) (hs:ws.length ≤ 2 ^ 40) {n:Nat} {v:Nat → Bool} {D:List (Nat × List AV)} {S:Sg} {Q:Ex → Fr → Prop}
 (hX:∀ j,(ws.drop i).any (fun w=>decide (s=w))=false → Q (.exit 0) ⟨uv (uv (uv (uv (uv e0 8 (B false)) 7 (I j)) 6 (I (ws.map Str).length)) 5 (.slice .full 1 (ws.map Str))) 0 (Str s),(fun _=>none),n,v,D,S⟩) (hR:(ws.drop i).any (fun w=>decide (s=w))=true → Q .ret ⟨uv e0 2 (B true),(fun _=>none),n,v,D,S⟩):EX (callL p) (.loop F120_l1) ⟨uv (uv (uv (uv e0 7 (I i)) 6 (I (ws.map Str).length)) 5 (.slice .full 1 (ws.map Str))) 0 (Str s),(fun _=>none),n,v,D,S⟩ Q:=by
 refine eloop (er (qp J (qb ?_)))
 rintro (_ | _) h1
 ·refine qn (kq5 J) kn (eseq (ecF J (eexit (sqx ?_))))
  exact hX _ (by rw [List.drop_eq_nil_of_le (by simp at h1 ⊢;omega)];rfl)
 refine qn (kq5 J) kn (eseq (ecT J (eskip (sqn (eseq (eblock (er ?_)))))))
 have hlt:i < ws.length:=by simpa using h1
 obtain ⟨w,hw⟩:=get_of_lt hlt
 refine hia (y:=Str w) rfl rfl (by omega) (by simp [hw]) rfl (qp rfl (qp rfl (qk (kc rfl (kc rfl (kc rfl (kc rfl (kc rfl kn))))) kn (sqn (eseq (ereg (qp rfl (qp rfl (qp rfl (qb ?_))))))))))
 rintro (_ | _) h2
 ·refine qn (kq5 J) kn (ecF J (eskip (bqn (sqn (ereg (hadd J J (i64w (by omega)) (qp J (qk (kq4 J) kn ?_))))))))
  exact Reserved_l s ws (i + 1) (by omega) hs (fun j h=>hX j (by rw [drop_cons hw];simp_all)) (fun h=>hR (by rw [drop_cons hw];simp_all))
 refine qn (kq5 J) kn (ecT J (er (qp J (qn (kq1 J) kn (eret (bqr (sqr ?_)))))))
 exact hR (by rw [drop_cons hw];simp_all)
termination_by ws.length - i
decreasing_by all_goals omega
theorem Reserved_c (s:Sg) (x:ByteArray):HC p N120_ [Str x] s (fun r s'=>r=[B (reserved x)] ∧ s'=s):=by
 refine hcf J f120_ J ?_
 simp only [chainOf]
 refine er (qp J (qn (kq1 J) kn (eseq (er (hbsl J J (lq11 J) (pq2 J (qn (kq4 J) kn (eblock ?_))))))))
 refine Reserved_l x resWords 0 (by omega) (by decide) ?_ ?_
 ·intro j ha
  refine bqx (sqn (er (qp J (qn (kq1 J) kn (eret (fqr J ?_))))))
  refine ⟨?_,rfl⟩;simp_all [AV.ers,AV.er,reserved]
 intro ha
 refine bqr (sqr (fqr J ?_))
 refine ⟨?_,rfl⟩;simp_all [AV.ers,AV.er,reserved]
theorem Name_c (s:Sg) (x:ByteArray):HC p N72_ [Str x] s (fun r s'=>r=[B (nameOk x)] ∧ s'=s):=by
 refine hcf J f72_ J ?_
 simp only [chainOf]
 refine er (qp J (qn (kq1 J) kn (er (pq3 J (qb ?_)))))
 rintro (_ | _) h1
 refine qp J (zq3 J (pq2 J (zq3 J (pq2 J (zq3 J (pq2 J (zq2 J (pq2 J (zq3 J (qp J ?_))))))))))
 refine qp J (qn (kq1 J) kn (eret (fqr J ?_)))
 rotate_left
 refine qp J (qg J (qp J (qg J (qp J (qg J (qp J (qb ?_)))))))
 rintro (_ | _) h2
 refine pq2 J (zq3 J (pq2 J (zq3 J (pq2 J (zq2 J (pq2 J (zq3 J (pq2 J (qn (kq1 J) kn (eret ?_))))))))))
 refine fqr J ?_
 rotate_left
 refine pq2 J (qg J (qp J (qg J ?_)))
 obtain ⟨b,hb⟩:=byte_at (s:=x) (i:=0) (by simp at h1;omega)
 refine hixs J J (by omega) (by simpa using hb) (qg J (qp J (qb ?_)))
 rintro (_ | _) h3
 refine pq2 J (zq3 J (pq2 J (zq2 J (pq2 J (zq3 J (pq2 J (qn (kq1 J) kn (eret (fqr J ?_)))))))))
 rotate_left
 refine pq2 J (qg J (qp J (qg J (hixs J J (by omega) (by simpa using hb) (qg J (qp J (qb ?_)))))))
 rintro (_ | _) h4
 refine pq2 J (zq2 J (pq2 J (zq3 J (pq2 J (qn (kq1 J) kn (eret (fqr J ?_)))))))
 rotate_left
 refine pq2 rfl (qg rfl (qp rfl (qg rfl (hcall rfl rfl rfl (rest_c _ _ (by simp at *;omega) (by simp at *;omega)) ?_))))
 rintro _ _ ⟨rfl,rfl⟩
 refine qb ?_
 rintro (_ | _) h5
 refine pq2 J (zq3 J (pq2 J (qn (kq1 J) kn (eret (fqr J ?_)))))
 rotate_left
 refine pq2 J (qg J (qp J (qg J (hcall J J J (Reserved_c _ _) ?_))))
 rintro _ _ ⟨rfl,rfl⟩
 refine qg J (pq3 J (qn (kq1 J) kn (eret (fqr J ?_))))
 rotate_left
 all_goals
  refine ⟨?_,rfl⟩;simp_all [AV.ers,AV.er,nameOk,xnameOk,headIs_of,lowB,capB,-List.all_eq_true,-List.all_eq_false,-List.any_eq_true,-List.any_eq_false] <;> omega
theorem XtorName_c (s:Sg) (x:ByteArray):HC p N73_ [Str x] s (fun r s'=>r=[B (xnameOk x)] ∧ s'=s):=by
 refine hcf J f73_ J ?_
 simp only [chainOf]
 refine er (qp J (qn (kq1 J) kn (er (pq3 J (qb ?_)))))
 rintro (_ | _) h1
 refine qp J (zq3 J (pq2 J (zq3 J (pq2 J (zq3 J (pq2 J (zq2 J (pq2 J (qn (kq1 J) kn (eret (fqr J ?_)))))))))))
 rotate_left
 refine qp J (qg J (qp J (qg J (qp J (qg J (qp J (qb ?_)))))))
 rintro (_ | _) h2
 refine pq2 J (zq3 J (pq2 J (zq3 J (pq2 J (zq2 J (pq2 J (qn (kq1 J) kn (eret (fqr J ?_)))))))))
 rotate_left
 refine pq2 J (qg J (qp J (qg J ?_)))
 obtain ⟨b,hb⟩:=byte_at (s:=x) (i:=0) (by simp at h1;omega)
 refine hixs J J (by omega) (by simpa using hb) (qg J (qp J (qb ?_)))
 rintro (_ | _) h3
 refine pq2 J (zq3 J (pq2 J (zq2 J (pq2 J (qn (kq1 J) kn (eret (fqr J ?_)))))))
 rotate_left
 refine pq2 J (qg J (qp J (qg J (hixs J J (by omega) (by simpa using hb) (qg J (qp J (qb ?_)))))))
 rintro (_ | _) h4
 refine pq2 J (zq2 J (pq2 J (qn (kq1 J) kn (eret (fqr J ?_)))))
 rotate_left
 refine pq2 rfl (qg rfl (qp rfl (qg rfl (hcall rfl rfl rfl (rest_c _ _ (by simp at *;omega) (by simp at *;omega)) ?_))))
 rintro _ _ ⟨rfl,rfl⟩
 refine pq2 J (qn (kq1 J) kn (eret (fqr J ?_)))
 rotate_left
 all_goals
  refine ⟨?_,rfl⟩;simp_all [AV.ers,AV.er,nameOk,xnameOk,headIs_of,lowB,capB,-List.all_eq_true,-List.all_eq_false,-List.any_eq_true,-List.any_eq_false] <;> omega
end Go.Sim.Kd
namespace Go.Sim.Kd
open Go Go.Sim
def QOK (s:Sg):Prop:=hasInt (s.Q 2 0)=true
theorem Contains_c (s:Sg) (hQ:QOK s) (a b:ByteArray) (ha:a.size < 4294967281):HC p N105_ [Str a,Str b] s (fun r s'=>r=[B (Lib.contains (bytes a) (bytes b))] ∧ s'=s):=by
 refine ⟨_,s,?_,J,J⟩
 rw [callL_eq]
 have e:p.ov N105_=some containsOv:=rfl
 rw [e]
 simp only [containsOv,if_pos (show a.size < 4294967281 ∧ hasInt (s.Q 2 0)=true from ⟨ha,hQ⟩)]
def has (sub:List UInt8):List UInt8 → Bool
 | []=>sub.isPrefixOf []
 | b :: l=>sub.isPrefixOf (b :: l) || has sub l
theorem index_cons (sub:List UInt8) (b:UInt8) (l:List UInt8):Lib.index (b :: l) sub=if sub.isPrefixOf (b :: l)=true then 0 else if (Lib.index l sub == -1)=true then -1 else Lib.index l sub + 1:=by
 conv=>lhs;unfold Lib.index
theorem contains_has (sub:List UInt8):∀ l,Lib.contains l sub=has sub l
 | []=>by
   cases sub with
   | nil=>rfl
   | cons a t=>rfl
 | b :: l=>by
   have ih:=contains_has sub l
   unfold Lib.contains at ih ⊢
   unfold has
   rw [← ih,index_cons]
   cases hp:sub.isPrefixOf (b :: l) with
   | true=>simp
   | false =>
     simp only [Bool.false_eq_true,if_false,Bool.false_or]
     have:=Lib.index_ge l sub
     by_cases h:Lib.index l sub=-1
     ·rw [h];rfl
     have e:(Lib.index l sub == -1)=false:=by rw [beq_eq_false_iff_ne];exact h
     simp only [e,Bool.false_eq_true,if_false]
     rw [Bool.eq_iff_iff]
     simp only [Dte]
     omega
theorem pre_word {w x r:List UInt8} (hw:∀ b ∈ w,b ≠ 32) (hx:∀ b ∈ x,b ≠ 32):(w ++ [32]).isPrefixOf (x ++ 32 :: r)=decide (w=x):=by
 induction w generalizing x with
 | nil =>
   cases x with
   | nil=>simp
   | cons b x=>have:=hx b (List.mem_cons_self ..);simp [List.isPrefixOf,Ne.symm this]
 | cons a w ih =>
   cases x with
   | nil=>have:=hw a (List.mem_cons_self ..);simp [List.isPrefixOf,this]
   | cons b x =>
     simp only [List.cons_append,List.isPrefixOf,ih (fun b hb=>hw b (List.mem_cons_of_mem _ hb)) (fun b hb=>hx b (List.mem_cons_of_mem _ hb)),List.cons.injEq]
     rw [Bool.eq_iff_iff]
     simp
theorem has_skip {t x r:List UInt8} (hx:∀ b ∈ x,b ≠ 32):has (32 :: t) (x ++ r)=has (32 :: t) r:=by
 induction x with
 | nil=>rfl
 | cons b x ih =>
   have hb:=hx b (List.mem_cons_self ..)
   simp only [List.cons_append,has,List.isPrefixOf]
   have e:((32:UInt8) == b)=false:=by rw [beq_eq_false_iff_ne];exact Ne.symm hb
   rw [e,Bfa,Bool.false_or]
   exact ih fun b hb=>hx b (List.mem_cons_of_mem _ hb)
theorem has_words {w:List UInt8} (hw:∀ b ∈ w,b ≠ 32):∀ ws:List (List UInt8),(∀ x ∈ ws,∀ b ∈ x,b ≠ 32) → has (32 :: (w ++ [32])) (32 :: ws.flatMap (· ++ [32]))=ws.any fun x=>decide (w=x)
 | [],_=>by cases w <;> simp [has,List.isPrefixOf]
 | x :: ws,h=>by
   have hx:=h x (List.mem_cons_self ..)
   have ih:=has_words hw ws fun y hy=>h y (List.mem_cons_of_mem _ hy)
   have e:(x :: ws).flatMap (· ++ [32])=x ++ 32 :: ws.flatMap (· ++ [32]):=by simp
   rw [has,e,List.isPrefixOf,pre_word hw hx,has_skip hx,ih]
   simp
def resBytes:List (List UInt8):=resWords.map bytes
def resText:ByteArray:=⟨#[32,100,97,116,97,32,99,111,100,97,116,97,32,102,117,110,32,105,110,116,32,105,102,122,32,99,97,115,101,32,99,111,99,97,115,101,32,108,101,116,32,101,109,105,116,32,108,97,98,101,108,32,103,111,116,111,32]⟩
theorem resText_eq:bytes resText=32 :: resBytes.flatMap (· ++ [32]):=by decide
theorem contains_reserved {x:ByteArray} (hx:(bytes x).all isLow=true):Lib.contains (bytes resText) (32 :: (bytes x ++ [32]))=reserved x:=by
 have h32:∀ b ∈ bytes x,b ≠ 32:=by
  intro b hb e
  have:=List.all_eq_true.1 hx b hb
  subst e
  revert this
  decide
 rw [contains_has,resText_eq,has_words h32 resBytes (by decide)]
 unfold reserved resBytes
 rw [List.any_map]
 congr 1
 funext w
 show decide (bytes x=bytes w)=decide (x=w)
 rw [Bool.eq_iff_iff]
 simp only [Dte]
 constructor
 ·intro h
  exact ByteArray.ext (Array.ext' h)
 intro h;rw [h]
theorem all_split {x:ByteArray} (h:headIs lowB x=true):(bytes x).all isLow=((bytes x).drop 1).all isLow:=by
 unfold headIs at h
 cases hb:bytes x with
 | nil=>rfl
 | cons b l=>rw [hb] at h;simp only at h;simp [isLow,h]
theorem name_eq {x:ByteArray} {b:UInt8} (h1:1 ≤ x.size) (h2:x.size ≤ 10) (hb:x.data.toList[0]?=some b) (hl:lowB b=true) (hr:(bytes x).all isLow=true):nameOk x=!reserved x:=by
 unfold nameOk
 rw [headIs_of hb,← all_split (by rw [headIs_of hb];exact hl),hr,hl,decide_eq_true h1,decide_eq_true h2]
 simp
theorem cat1 {x:ByteArray} (h:x.size ≤ 100):(⟨#[32]⟩:ByteArray).size + x.size ≤ 2 ^ 62:=by
 have:(⟨#[32]⟩:ByteArray).size=1:=rfl
 omega
theorem cat2 {x:ByteArray} (h:x.size ≤ 100):((⟨#[32]⟩:ByteArray) ++ x).size + (⟨#[32]⟩:ByteArray).size ≤ 2 ^ 62:=by
 have:(⟨#[32]⟩:ByteArray).size=1:=rfl
 rw [ByteArray.size_append]
 omega
theorem cat_bytes (x:ByteArray):bytes ((⟨#[32]⟩:ByteArray) ++ x ++ ⟨#[32]⟩)=32 :: (bytes x ++ [32]):=by
 simp [bytes]
theorem dName_c (s:Sg) (hQ:QOK s) (x:ByteArray):HC p N57_ [Str x] s (fun r s'=>r=[B (nameOk x)] ∧ s'=s):=by
 refine hcf J f57_ J ?_
 simp only [chainOf]
 refine er (qp J (qn (kq1 J) kn (er (pq3 J (qb ?_)))))
 rintro (_ | _) h1
 refine qp J (zq3 J (pq2 J (zq3 J (pq2 J (zq2 J (pq2 J (zq5 J (pq2 J (qn (kq1 J) kn ?_)))))))))
 refine eret (fqr J ?_)
 rotate_left
 refine qp J (qg J (qp J (qg J (qp J (qg J (qp J (qb ?_)))))))
 rintro (_ | _) h2
 refine pq2 J (zq3 J (pq2 J (zq2 J (pq2 J (zq5 J (pq2 J (qn (kq1 J) kn (eret (fqr J ?_)))))))))
 rotate_left
 refine pq2 J (qg J (qp J (qg J ?_)))
 obtain ⟨b,hb⟩:=byte_at (s:=x) (i:=0) (by simp at h1;omega)
 refine hixs J J (by omega) (by simpa using hb) (qg J (hcall J J J (lower_c _ _) ?_))
 rintro _ _ ⟨rfl,rfl⟩
 refine qb ?_
 rintro (_ | _) h3
 refine pq2 J (zq2 J (pq2 J (zq5 J (pq2 J (qn (kq1 J) kn (eret (fqr J ?_)))))))
 rotate_left
 refine pq2 rfl (qg rfl (qp rfl (qg rfl (hcall rfl rfl rfl (drest_c _ _ (by simp at *;omega)) ?_))))
 rintro _ _ ⟨rfl,rfl⟩
 refine qb ?_
 rintro (_ | _) h4
 refine pq2 J (zq5 J (pq2 J (qn (kq1 J) kn (eret (fqr J ?_)))))
 rotate_left
 refine pq2 rfl (qg rfl (qp rfl (qg rfl (hcat rfl rfl (cat1 (by simp at *;omega)) (qg rfl (hcat rfl rfl (cat2 (by simp at *;omega)) (qg rfl (hcall rfl rfl rfl (Contains_c _ hQ resText _ (by decide)) ?_))))))))
 rintro _ _ ⟨rfl,rfl⟩
 rw [cat_bytes,contains_reserved ‹_›]
 refine qg J (pq3 J (qn (kq1 J) kn (eret (fqr J ?_))))
 rotate_left
 all_goals
  refine ⟨?_,J⟩
  first
  | (have ha:=all_split (x:=x) (by rw [headIs_of hb];assumption);simp_all [AV.ers,AV.er,nameOk,headIs_of,-List.all_eq_true,-List.all_eq_false,-List.any_eq_true,-List.any_eq_false];done)
  | (rw [name_eq (by simp at *;omega) (by simp at *;omega) hb ‹_› ‹_›];rfl)
  | (simp_all [AV.ers,AV.er,nameOk,headIs_of,-List.all_eq_true,-List.all_eq_false,-List.any_eq_true,-List.any_eq_false] <;> omega)
theorem tail_bytes (x:ByteArray):bytes (x.extract 1 x.size)=(bytes x).drop 1:=by
 simp [bytes,List.take_of_length_le]
theorem dXtorName_c (s:Sg) (x:ByteArray):HC p N102_ [Str x] s (fun r s'=>r=[B (xnameOk x)] ∧ s'=s):=by
 refine hcf J f102_ J ?_
 simp only [chainOf]
 refine er (qp J (qn (kq1 J) kn (er (pq3 J (qb ?_)))))
 rintro (_ | _) h1
 refine qp J (zq3 J (pq2 J (zq3 J (pq2 J (zq3 J (pq2 J (zq3 J (pq2 J (qn (kq1 J) kn (eret ?_))))))))))
 refine fqr J ?_
 rotate_left
 refine qp J (qg J (qp J (qg J (qp J (qg J (qp J (qb ?_)))))))
 rintro (_ | _) h2
 refine pq2 J (zq3 J (pq2 J (zq3 J (pq2 J (zq3 J (pq2 J (qn (kq1 J) kn (eret (fqr J ?_)))))))))
 rotate_left
 refine pq2 J (qg J (qp J (qg J ?_)))
 obtain ⟨b,hb⟩:=byte_at (s:=x) (i:=0) (by simp at h1;omega)
 refine hixs J J (by omega) (by simpa using hb) (qg J (qp J (qb ?_)))
 rintro (_ | _) h3
 refine pq2 J (zq3 J (pq2 J (zq3 J (pq2 J (qn (kq1 J) kn (eret (fqr J ?_)))))))
 rotate_left
 refine pq2 J (qg J (qp J (qg J (hixs J J (by omega) (by simpa using hb) (qg J (qp J (qb ?_)))))))
 rintro (_ | _) h4
 refine pq2 J (zq3 J (pq2 J (qn (kq1 J) kn (eret (fqr J ?_)))))
 rotate_left
 refine qp rfl (qp rfl (qg rfl (qp rfl (qg rfl (hsls (a:=1) rfl rfl rfl (by simp at *;omega) (qg rfl (hcall rfl rfl rfl (drest_c _ _ (by simp at *;omega)) ?_)))))))
 rintro _ _ ⟨rfl,rfl⟩
 rw [tail_bytes]
 refine pq2 J (qn (kq1 J) kn (eret (fqr J ?_)))
 rotate_left
 all_goals
  refine ⟨?_,rfl⟩;simp_all [AV.ers,AV.er,xnameOk,headIs_of,capB,-List.all_eq_true,-List.all_eq_false,-List.any_eq_true,-List.any_eq_false] <;> omega
end Go.Sim.Kd
namespace Go.Sim.Kd
open Go Go.Sim
def typesOk (N:Nat) (l:List Arg):Bool:=l.all fun a=>decide (0 ≤ a.ty) && decide (a.ty ≤ N)
def xtorOk (N:Nat) (seen:List ByteArray) (x:Xtor):Bool:=xnameOk x.name && decide (x.args.length ≤ 6) && !(seen.any fun y=>decide (x.name=y)) && typesOk N x.args
def xtorsOk (N:Nat):List ByteArray → List Xtor → Option (List ByteArray)
 | seen,[]=>some seen
 | seen,x :: xs=>if xtorOk N seen x then xtorsOk N (seen ++ [x.name]) xs else none
def declOk (names:List ByteArray) (d:Decl):Bool:=nameOk d.name && decide (1 ≤ d.xtors.length) && decide (d.xtors.length ≤ 6) && !(names.any fun y=>decide (y=d.name))
def declsOk (N:Nat):List ByteArray → List ByteArray → List Decl → Bool
 | _,_,[]=>true
 | names,seen,d :: ds=>declOk names d && (match xtorsOk N seen d.xtors with
   | some seen'=>declsOk N (names ++ [d.name]) seen' ds
   | none=>false)
def declsValid (l:List Decl):Bool:=decide (l.length ≤ 8) && declsOk l.length [] [] l
theorem xtorsOk_len {N:Nat}:∀ {xs:List Xtor} {seen seen':List ByteArray},xtorsOk N seen xs=some seen' → seen'.length=seen.length + xs.length
 | [],seen,seen',h=>by simp only [xtorsOk,Oie] at h;subst h;rfl
 | x :: xs,seen,seen',h=>by
   simp only [xtorsOk] at h
   split at h
   ·have:=xtorsOk_len h;simp at this ⊢;omega
   cases h
theorem Is_l5 (ds:List Decl) (l:List Arg) {N:Nat} (hN:ds.length=N) (i:Nat) (hi:i ≤ l.length) (hs:l.length ≤ 2 ^ 40) {x3 x17 x18 x19 x55 x56 x57:AV} {n:Nat} {v:Nat → Bool} {D:List (Nat × List AV)} {S:Sg} {Q:Ex → Fr → Prop}
 (hX:∀ j,typesOk N (l.drop i)=true → Q (.exit 8) ⟨uv (uv (uv (uv (uv (uv (uv (uv (uv (uv (uv (uv e0 91 (B false)) 90 (I j)) 89 (I (l.map Arg.enc).length)) 88 (.slice .none 2 (l.map Arg.enc))) 57 (x57)) 56 (x56)) 55 (x55)) 19 (x19)) 18 (x18)) 17 (x17)) 3 (x3)) 0 (SL 3 (ds.map Decl.enc)),(fun _=>none),n,v,D,S⟩) (hR:typesOk N (l.drop i)=false → Q .ret ⟨uv e0 2 (B false),(fun _=>none),n,v,D,S⟩):EX (callL p) (.loop F31_l5) ⟨uv (uv (uv (uv (uv (uv (uv (uv (uv (uv (uv e0 90 (I i)) 89 (I (l.map Arg.enc).length)) 88 (.slice .none 2 (l.map Arg.enc))) 57 (x57)) 56 (x56)) 55 (x55)) 19 (x19)) 18 (x18)) 17 (x17)) 3 (x3)) 0 (SL 3 (ds.map Decl.enc)),(fun _=>none),n,v,D,S⟩ Q:=by
 refine eloop (er (qp J (qb ?_)))
 rintro (_ | _) h1
 ·refine qn (kq12 J) kn (eseq (ecF J (eexit (sqx ?_))))
  exact hX _ (by rw [List.drop_eq_nil_of_le (by simp at h1 ⊢;omega)];rfl)
 refine qn (kq12 J) kn (eseq (ecT J (eskip (sqn (eseq (eblock (er ?_)))))))
 have hlt:i < l.length:=by simpa using h1
 obtain ⟨a,ha⟩:=get_of_lt hlt
 have hd:=drop_cons ha
 refine hia (y:=Arg.enc a) rfl rfl (by omega) (by simp [ha]) rfl (hlda rfl rfl (lc rfl (lc rfl (ln rfl))) (hal (dc (dc (dc (dc (dc (dc (dc (dc (dc (dc (dc (dc (dc (dc dn rfl) rfl) rfl) rfl) rfl) rfl) rfl) rfl) rfl) rfl) rfl) rfl) rfl) rfl) (hstl rfl rfl rfl rfl (Nlb rfl) (lc rfl (lc rfl (ln rfl))) (qk (kc rfl (kc rfl (kc rfl (kc rfl (kc rfl (kc rfl (kc rfl (kc rfl (kc rfl (kc rfl (kc rfl (kc rfl kn)))))))))))) (kc rfl kn) (sqn (eseq (ereg (qp rfl (qp rfl (qp rfl (qb ?_)))))))))))
 rintro (_ | _) h2
 ·refine qp J (qg J (qp J (qg J (qp J (qg J (qp J (qg J (qp J (qg J (qp J (qb ?_)))))))))))
  rintro (_ | _) h3
  ·refine qp J (qn (kq12 J) kn (ecF J (eskip (bqn (sqn (ereg (hadd J J (i64w (by omega)) (qp J (qk (kq11 J) kn ?_)))))))))
   exact Is_l5 ds l hN (i + 1) (by omega) hs (fun j h=>hX j (by rw [hd];simp_all [typesOk])) (fun h=>hR (by rw [hd];simp_all [typesOk]))
  refine qp J (qn (kq12 J) kn (ecT J (er (qp J (qn (kq1 J) kn (eret (bqr (sqr ?_))))))))
  exact hR (by rw [hd];simp_all [typesOk];try omega)
 refine qp J (zq5 J (qp J (qn (kq12 J) kn (ecT J (er (qp J (qn (kq1 J) kn (eret (bqr (sqr ?_))))))))))
 exact hR (by rw [hd];simp_all [typesOk];try omega)
termination_by l.length - i
decreasing_by all_goals omega
theorem Is_l4 {o:Own} (x:Xtor) (l:List ByteArray) (i:Nat) (hi:i ≤ l.length) (hs:l.length ≤ 2 ^ 40) {x0 x3 x17 x18 x19 x55 x56 x57:AV} {n:Nat} {v:Nat → Bool} {D:List (Nat × List AV)} {S:Sg} {Q:Ex → Fr → Prop}
 (hX:∀ j,((l.drop i).any fun y=>decide (x.name=y))=false → Q (.exit 6) ⟨uv (uv (upd (uv (uv (uv (uv (uv (uv (uv (uv (uv (uv e0 74 (B false)) 73 (I j)) 72 (I (l.map Str).length)) 71 (.slice o 1 (l.map Str))) 57 (x57)) 56 (x56)) 55 (x55)) 19 (x19)) 18 (x18)) 17 (x17)) 9 (some (.loc 9 0))) 3 (x3)) 0 (x0),upd ((fun _=>none)) 9 (some ([Str x.name,encArgs x.args])),n,v,D,S⟩) (hR:((l.drop i).any fun y=>decide (x.name=y))=true → Q .ret ⟨uv e0 2 (B false),(fun _=>none),n,v,D,S⟩):EX (callL p) (.loop F31_l4) ⟨uv (uv (upd (uv (uv (uv (uv (uv (uv (uv (uv (uv e0 73 (I i)) 72 (I (l.map Str).length)) 71 (.slice o 1 (l.map Str))) 57 (x57)) 56 (x56)) 55 (x55)) 19 (x19)) 18 (x18)) 17 (x17)) 9 (some (.loc 9 0))) 3 (x3)) 0 (x0),upd ((fun _=>none)) 9 (some ([Str x.name,encArgs x.args])),n,v,D,S⟩ Q:=by
 refine eloop (er (qp J (qb ?_)))
 rintro (_ | _) h1
 ·refine qn (kq13 J) (kq1 J) (eseq (ecF J (eexit (sqx ?_))))
  exact hX _ (by rw [List.drop_eq_nil_of_le (by simp at h1 ⊢;omega)];rfl)
 refine qn (kq13 J) (kq1 J) (eseq (ecT J (eskip (sqn (eseq (eblock (er ?_)))))))
 have hlt:i < l.length:=by simpa using h1
 obtain ⟨a,ha⟩:=get_of_lt hlt
 have hd:=drop_cons ha
 refine hia (y:=Str a) rfl rfl (by omega) (by simp [ha]) rfl (qp rfl (qp rfl (qk (kc rfl (kc rfl (kc rfl (kc rfl (kc rfl (kc rfl (kc rfl (kc rfl (kc rfl (kc rfl (kc rfl (kc rfl (kc rfl kn))))))))))))) (kc rfl kn) (sqn (eseq (ereg (qp rfl (qp rfl (qp rfl (qp rfl (qb ?_)))))))))))
 rintro (_ | _) h2
 ·refine qn (kq13 J) (kq1 J) (ecF J (eskip (bqn (sqn (ereg (hadd J J (i64w (by omega)) (qp J (qk (kq12 J) (kq1 J) ?_))))))))
  exact Is_l4 x l (i + 1) (by omega) hs (fun j h=>hX j (by rw [hd];simp_all)) (fun h=>hR (by rw [hd];simp_all))
 refine qn (kq13 J) (kq1 J) (ecT J (er (qp J (qn (kq1 J) kn (eret (bqr (sqr ?_)))))))
 exact hR (by rw [hd];simp_all)
termination_by l.length - i
decreasing_by all_goals omega
theorem Is_l3 (ds:List Decl) (l:List Xtor) (seen:List ByteArray) (o:Own) (i:Nat) (hi:i ≤ l.length) (hs:l.length ≤ 2 ^ 40) {x17 x18 x19:AV} {n:Nat} {v:Nat → Bool} {D:List (Nat × List AV)} {S:Sg} {Q:Ex → Fr → Prop}
 (hc:Can o v) (hb:seen.length + (l.length - i) ≤ 2 ^ 30) (hX:∀ (seen':List ByteArray) o' n' v' j,xtorsOk ds.length seen (l.drop i)=some seen' → Can o' v' → Q (.exit 4) ⟨uv (uv (uv (uv (uv (uv (uv (uv (uv e0 58 (B false)) 57 (I j)) 56 (I (l.map Xtor.enc).length)) 55 (.slice .none 2 (l.map Xtor.enc))) 19 (x19)) 18 (x18)) 17 (x17)) 3 (.slice o' 1 (seen'.map Str))) 0 (SL 3 (ds.map Decl.enc)),(fun _=>none),n',v',D,S⟩) (hR:xtorsOk ds.length seen (l.drop i)=none → ∀ n' v',Q .ret ⟨uv e0 2 (B false),(fun _=>none),n',v',D,S⟩):EX (callL p) (.loop F31_l3) ⟨uv (uv (uv (uv (uv (uv (uv (uv e0 57 (I i)) 56 (I (l.map Xtor.enc).length)) 55 (.slice .none 2 (l.map Xtor.enc))) 19 (x19)) 18 (x18)) 17 (x17)) 3 (.slice o 1 (seen.map Str))) 0 (SL 3 (ds.map Decl.enc)),(fun _=>none),n,v,D,S⟩ Q:=by
 refine eloop (er (qp J (qb ?_)))
 rintro (_ | _) h1
 refine qn (kq9 J) kn (eseq (ecF J (eexit (sqx ?_))))
 exact hX _ _ _ _ _ (by rw [List.drop_eq_nil_of_le (by simp at h1 ⊢;omega)];rfl) hc
 refine qn (kq9 J) kn (eseq (ecT J (eskip (sqn (eseq (eblock (er ?_)))))))
 have hlt:i < l.length:=by simpa using h1
 obtain ⟨a,ha⟩:=get_of_lt hlt
 have hd:=drop_cons ha
 refine hia (y:=Xtor.enc a) rfl rfl (by omega) (by simp [ha]) rfl (hlda rfl rfl (lc rfl (lc rfl (ln rfl))) (hal (dc (dc (dc (dc (dc (dc (dc (dc (dc (dc (dc dn rfl) rfl) rfl) rfl) rfl) rfl) rfl) rfl) rfl) rfl) rfl) (hstl rfl rfl rfl rfl (Nlb rfl) (lc rfl (lc rfl (ln rfl))) (qk (kc rfl (kc rfl (kc rfl (kc rfl (kc rfl (kc rfl (kc rfl (kc rfl (kc rfl kn))))))))) (kc rfl kn) (sqn (eseq (eseq (ereg (qp rfl (qp rfl (hcall rfl rfl rfl (XtorName_c _ _) ?_)))))))))))
 rintro _ _ ⟨rfl,rfl⟩
 refine qb ?_
 rintro (_ | _) h2
 refine pq2 J (zq4 J (qp J (qn (kq10 J) (kq1 J) (ecT J (er (qp J (qn (kq1 J) kn (eret (sqr (bqr (sqr ?_)))))))))))
 rotate_left
 refine pq2 J (qg J (qp J (qg J (qp J (qg J (qp J (qg J (qp J (qb ?_)))))))))
 rintro (_ | _) h3
 refine qp J (qn (kq10 J) (kq1 J) (ecF J (eskip (sqn (eseq (er (pq3 J (qn (kq12 J) (kq1 J) (eblock ?_)))))))))
 refine Is_l4 a seen 0 (by omega) (by omega) ?_ ?_
 intro j hn
 refine bqx (sqn (eseq (ereg (qp rfl (qp rfl (qp rfl (hbsl rfl rfl (lc rfl (ln rfl)) (hapC rfl rfl hc (by simp) (by simp;omega) (r:=(seen ++ [a.name]).map Str) (by simp [AV.er]) ?_))))))))
 intro v1 hc1 _
 refine qp J (qn (kq9 J) (kq1 J) (er (pq4 J (qn (kq11 J) kn (eblock ?_)))))
 refine Is_l5 ds a.args rfl 0 (by omega) (by simp at h3;omega) ?_ ?_
 intro j ht
 refine bqx (bqn (sqn (ereg (hadd J J (i64w (by omega)) (qp J (qk (kq8 J) kn ?_))))))
 have hx:xtorOk ds.length seen a=true:=by clear hX hR;simp_all [xtorOk,-List.all_eq_true,-List.all_eq_false,-List.any_eq_true,-List.any_eq_false] <;> omega
 exact Is_l3 ds l (seen ++ [a.name]) (.tip n) (i + 1) (by omega) hs hc1 (by simp;omega) (fun seen' o' n' v' j e=>hX seen' o' n' v' j (by rw [hd];simp only [xtorsOk,hx,if_true];exact e)) (fun e=>hR (by rw [hd];simp only [xtorsOk,hx,if_true];exact e))
 intro ht
 refine bqr (bqr (sqr ?_))
 rotate_left
 intro hn
 refine bqr (sqr (bqr (sqr ?_)))
 rotate_left
 refine qp J (qn (kq10 J) (kq1 J) (ecT J (er (qp J (qn (kq1 J) kn (eret (sqr (bqr (sqr ?_)))))))))
 rotate_left
 all_goals
  have hx:xtorOk ds.length seen a=false:=by clear hX hR;simp_all [xtorOk,-List.all_eq_true,-List.all_eq_false,-List.any_eq_true,-List.any_eq_false] <;> omega
  exact hR (by rw [hd];simp [xtorsOk,hx]) _ _
termination_by l.length - i
decreasing_by all_goals omega
theorem Is_l2 (d:Decl) (l:List Decl) (i:Nat) (hi:i ≤ l.length) (hs:l.length ≤ 2 ^ 40) {x0 x3 x17 x18 x19:AV} {n:Nat} {v:Nat → Bool} {D:List (Nat × List AV)} {S:Sg} {Q:Ex → Fr → Prop}
 (hX:∀ j,(((l.drop i).map Decl.name).any fun y=>decide (y=d.name))=false → Q (.exit 2) ⟨uv (uv (upd (uv (uv (uv (uv (uv (uv (uv e0 45 (B false)) 44 (I j)) 43 (I (l.map Decl.enc).length)) 42 (.slice .none 3 (l.map Decl.enc))) 19 (x19)) 18 (x18)) 17 (x17)) 5 (some (.loc 5 0))) 3 (x3)) 0 (x0),upd ((fun _=>none)) 5 (some ([Str d.name,B d.codata,SL 2 (d.xtors.map Xtor.enc)])),n,v,D,S⟩) (hR:(((l.drop i).map Decl.name).any fun y=>decide (y=d.name))=true → Q .ret ⟨uv e0 2 (B false),(fun _=>none),n,v,D,S⟩):EX (callL p) (.loop F31_l2) ⟨uv (uv (upd (uv (uv (uv (uv (uv (uv e0 44 (I i)) 43 (I (l.map Decl.enc).length)) 42 (.slice .none 3 (l.map Decl.enc))) 19 (x19)) 18 (x18)) 17 (x17)) 5 (some (.loc 5 0))) 3 (x3)) 0 (x0),upd ((fun _=>none)) 5 (some ([Str d.name,B d.codata,SL 2 (d.xtors.map Xtor.enc)])),n,v,D,S⟩ Q:=by
 refine eloop (er (qp J (qb ?_)))
 rintro (_ | _) h1
 ·refine qn (kq10 J) (kq1 J) (eseq (ecF J (eexit (sqx ?_))))
  exact hX _ (by rw [List.drop_eq_nil_of_le (by simp at h1 ⊢;omega)];rfl)
 refine qn (kq10 J) (kq1 J) (eseq (ecT J (eskip (sqn (eseq (eblock (er ?_)))))))
 have hlt:i < l.length:=by simpa using h1
 obtain ⟨a,ha⟩:=get_of_lt hlt
 have hd:=drop_cons ha
 refine hia (y:=Decl.enc a) rfl rfl (by omega) (by simp [ha]) rfl (hlda rfl rfl (lc rfl (lc rfl (lc rfl (ln rfl)))) (hal (dc (dc (dc (dc (dc (dc (dc (dc (dc (dc (dc (dc dn rfl) rfl) rfl) rfl) rfl) rfl) rfl) rfl) rfl) rfl) rfl) rfl) (hstl rfl rfl rfl rfl (Nlb rfl) (lc rfl (lc rfl (lc rfl (ln rfl)))) (qk (kc rfl (kc rfl (kc rfl (kc rfl (kc rfl (kc rfl (kc rfl (kc rfl (kc rfl (kc rfl kn)))))))))) (kc rfl (kc rfl kn)) (sqn (eseq (ereg (qp rfl (qp rfl (qp rfl (qp rfl (qp rfl (qb ?_)))))))))))))
 rintro (_ | _) h2
 ·refine qn (kq10 J) (kq1 J) (ecF J (eskip (bqn (sqn (ereg (hadd J J (i64w (by omega)) (qp J (qk (kq9 J) (kq1 J) ?_))))))))
  exact Is_l2 d l (i + 1) (by omega) hs (fun j h=>hX j (by rw [hd];simp_all)) (fun h=>hR (by rw [hd];simp_all))
 refine qn (kq10 J) (kq1 J) (ecT J (er (qp J (qn (kq1 J) kn (eret (bqr (sqr ?_)))))))
 exact hR (by rw [hd];simp_all)
termination_by l.length - i
decreasing_by all_goals omega
theorem Is_l1 (ds:List Decl) (seen:List ByteArray) (o:Own) (i:Nat) (hi:i ≤ ds.length) (hs:ds.length ≤ 2 ^ 40) {n:Nat} {v:Nat → Bool} {D:List (Nat × List AV)} {S:Sg} {Q:Ex → Fr → Prop}
 (hc:Can o v) (hb:seen.length + 6 * (ds.length - i) ≤ 2 ^ 20) (hX:∀ (seen':List ByteArray) o' n' v' j,declsOk ds.length ((ds.take i).map Decl.name) seen (ds.drop i)=true → Q (.exit 0) ⟨uv (uv (uv (uv (uv (uv e0 20 (B false)) 19 (I j)) 18 (I (ds.map Decl.enc).length)) 17 (.slice .none 3 (ds.map Decl.enc))) 3 (.slice o' 1 (seen'.map Str))) 0 (SL 3 (ds.map Decl.enc)),(fun _=>none),n',v',D,S⟩) (hR:declsOk ds.length ((ds.take i).map Decl.name) seen (ds.drop i)=false → ∀ n' v',Q .ret ⟨uv e0 2 (B false),(fun _=>none),n',v',D,S⟩):EX (callL p) (.loop F31_l1) ⟨uv (uv (uv (uv (uv e0 19 (I i)) 18 (I (ds.map Decl.enc).length)) 17 (.slice .none 3 (ds.map Decl.enc))) 3 (.slice o 1 (seen.map Str))) 0 (SL 3 (ds.map Decl.enc)),(fun _=>none),n,v,D,S⟩ Q:=by
 refine eloop (er (qp J (qb ?_)))
 rintro (_ | _) h1
 refine qn (kq6 J) kn (eseq (ecF J (eexit (sqx ?_))))
 exact hX _ _ _ _ _ (by rw [List.drop_eq_nil_of_le (by simp at h1 ⊢;omega)];rfl)
 refine qn (kq6 J) kn (eseq (ecT J (eskip (sqn (eseq (eblock (er (qp J ?_))))))))
 have hlt:i < ds.length:=by simpa using h1
 obtain ⟨a,ha⟩:=get_of_lt hlt
 have hd:=drop_cons ha
 refine hia (y:=Decl.enc a) rfl rfl (by omega) (by simp [ha]) rfl (hlda rfl rfl (lc rfl (lc rfl (lc rfl (ln rfl)))) (hal (dc (dc (dc (dc (dc (dc (dc (dc (dc dn rfl) rfl) rfl) rfl) rfl) rfl) rfl) rfl) rfl) (qp rfl (hstl rfl rfl rfl rfl (Nlb rfl) (lc rfl (lc rfl (lc rfl (ln rfl)))) (qk (kc rfl (kc rfl (kc rfl (kc rfl (kc rfl (kc rfl (kc rfl kn))))))) (kc rfl kn) (sqn (eseq (eseq (ereg (qp rfl (qp rfl (hcall rfl rfl rfl (Name_c _ _) ?_))))))))))))
 rintro _ _ ⟨rfl,rfl⟩
 refine qb ?_
 rintro (_ | _) h2
 refine pq2 J (zq4 J (pq2 J (zq4 J (qp J (qn (kq8 J) (kq1 J) (ecT J (er (qp J (qn (kq1 J) kn (eret (sqr (bqr ?_))))))))))))
 refine sqr ?_
 rotate_left
 refine pq2 J (qg J (qp J (qg J (qp J (qg J (qp J (qg J (qp J (qb ?_)))))))))
 rintro (_ | _) h3
 refine pq2 J (qg J (qp J (qg J (qp J (qg J (qp J (qg J (qp J (qb ?_)))))))))
 rintro (_ | _) h4
 refine qp rfl (qk (kc rfl (kc rfl (kc rfl (kc rfl (kc rfl (kc rfl (kc rfl (kc rfl kn)))))))) (kc rfl kn) (sqn (ecF rfl (eskip (sqn (eseq (eseq (ereg (qp rfl (qp rfl (hsl (a:=0) (b:=i) rfl rfl rfl (by simp;omega) (r:=(ds.take i).map Decl.enc) (by simp) (qp rfl (qp rfl (qk (kc rfl (kc rfl (kc rfl (kc rfl (kc rfl (kc rfl (kc rfl (kc rfl (kc rfl kn))))))))) (kc rfl kn) (sqn (eblock ?_))))))))))))))))
 refine Is_l2 a (l:=ds.take i) 0 (by omega) (by simp;omega) ?_ ?_
 intro j hn
 refine bqx (sqn (er (pq4 J (qn (kq8 J) kn (eblock ?_)))))
 refine Is_l3 ds a.xtors seen o 0 (by omega) (by simp at h4;omega) hc (by simp at h4;omega) ?_ ?_
 intro seen' o' n' v' j hx hc'
 refine bqx (bqn (sqn (ereg (hadd J J (i64w (by omega)) (qp J (qk (kq5 J) kn ?_))))))
 have hy:declsOk ds.length ((ds.take i).map Decl.name) seen (ds.drop i)=declsOk ds.length ((ds.take (i + 1)).map Decl.name) seen' (ds.drop (i + 1)):=by
  rw [hd]
  clear hX hR
  have e:(ds.take (i + 1)).map Decl.name=(ds.take i).map Decl.name ++ [a.name]:=by simp [List.take_add_one,ha]
  have e2:declOk ((ds.take i).map Decl.name) a=true:=by
   simp_all [declOk,-List.all_eq_true,-List.all_eq_false,-List.any_eq_true,-List.any_eq_false] <;> omega
  rw [e]
  simp only [declsOk,e2,Bta]
  rw [show xtorsOk ds.length seen a.xtors=some seen' from hx]
 have hl:=xtorsOk_len hx
 simp at hl h4
 exact Is_l1 ds seen' o' (i + 1) (by omega) hs hc' (by omega) (fun s1 o1 n1 v1 j1 h=>hX s1 o1 n1 v1 j1 (hy.trans h)) (fun h=>hR (hy.trans h))
 intro hx n' v'
 refine bqr (bqr (sqr ?_))
 rotate_left
 intro hn
 refine bqr (sqr (bqr (sqr ?_)))
 rotate_left
 refine qp J (qn (kq8 J) (kq1 J) (ecT J (er (qp J (qn (kq1 J) kn (eret (sqr (bqr (sqr ?_)))))))))
 rotate_left
 refine pq2 J (zq4 J (qp J (qn (kq8 J) (kq1 J) (ecT J (er (qp J (qn (kq1 J) kn (eret (sqr (bqr (sqr ?_)))))))))))
 rotate_left
 all_goals
  have hy:declsOk ds.length ((ds.take i).map Decl.name) seen (ds.drop i)=false:=by
   rw [hd]
   clear hX hR
   simp_all [declsOk,declOk,-List.all_eq_true,-List.all_eq_false,-List.any_eq_true,-List.any_eq_false] <;> omega
  exact hR hy _ _
termination_by ds.length - i
decreasing_by all_goals omega
theorem Is01_c (s:Sg) (l:List Decl) (hl:l.length ≤ 2 ^ 40):HC p N31_ [SL 3 (l.map Decl.enc)] s (fun r s'=>r=[B (declsValid l)] ∧ s'=s):=by
 refine hcf J f31_ J ?_
 simp only [chainOf]
 refine er (qp J (qn (kq1 J) kn (eseq (er (pq3 J (qb ?_))))))
 rintro (_ | _) h1
 refine qn (kq2 J) kn (ecF J (eskip (sqn (er (qp J (qn (kq2 J) kn (eseq (er (pq3 J (qn (kq5 J) kn (eblock ?_)))))))))))
 refine Is_l1 l [] .full 0 (by omega) (by omega) trivial (by simp at h1 ⊢;omega) ?_ ?_
 intro seen' o' n' v' j hx
 refine bqx (sqn (er (qp J (qn (kq1 J) kn (eret (fqr J ?_))))))
 rotate_left
 intro hx n' v'
 refine bqr (sqr (fqr J ?_))
 rotate_left
 refine qn (kq2 J) kn (ecT J (er (qp J (qn (kq1 J) kn (eret (sqr (fqr J ?_)))))))
 rotate_left
 all_goals
  refine ⟨?_,rfl⟩;simp_all [AV.ers,AV.er,declsValid,-List.all_eq_true,-List.all_eq_false,-List.any_eq_true,-List.any_eq_false] <;> omega
end Go.Sim.Kd
namespace Go.Sim.Kd
open Go Go.Sim
theorem c1_l {b:Nat} (ds:List Decl) (l:List Arg) (i:Nat) (hi:i ≤ l.length) (hs:l.length ≤ 2 ^ 40) {n:Nat} {v:Nat → Bool} {D:List (Nat × List AV)} {S:Sg} {Q:Ex → Fr → Prop}
 (hS:S.ob b=some (.row [SL 3 (ds.map Decl.enc)])) (hX:∀ j,typesOk ds.length (l.drop i)=true → Q (.exit 0) ⟨uv (uv (uv (uv (uv e0 30 (B false)) 29 (I j)) 28 (I (l.map Arg.enc).length)) 27 (.slice .none 2 (l.map Arg.enc))) 2 (.ptr b 0),(fun _=>none),n,v,D,S⟩) (hR:typesOk ds.length (l.drop i)=false → Q .ret ⟨uv e0 4 (B false),(fun _=>none),n,v,D,S⟩):EX (callL p) (.loop F101_l1) ⟨uv (uv (uv (uv e0 29 (I i)) 28 (I (l.map Arg.enc).length)) 27 (.slice .none 2 (l.map Arg.enc))) 2 (.ptr b 0),(fun _=>none),n,v,D,S⟩ Q:=by
 refine eloop (er (qp J (qb ?_)))
 rintro (_ | _) h1
 ·refine qn (kq5 J) kn (eseq (ecF J (eexit (sqx ?_))))
  exact hX _ (by rw [List.drop_eq_nil_of_le (by simp at h1 ⊢;omega)];rfl)
 refine qn (kq5 J) kn (eseq (ecT J (eskip (sqn (eseq (eblock (er ?_)))))))
 have hlt:i < l.length:=by simpa using h1
 obtain ⟨a,ha⟩:=get_of_lt hlt
 have hd:=drop_cons ha
 refine hia (y:=Arg.enc a) rfl rfl (by omega) (by simp [ha]) rfl (hlda rfl rfl (lc rfl (lc rfl (ln rfl))) (hal (dc (dc (dc (dc (dc (dc (dc dn rfl) rfl) rfl) rfl) rfl) rfl) rfl) (hstl rfl rfl rfl rfl (Nlb rfl) (lc rfl (lc rfl (ln rfl))) (qk (kc rfl (kc rfl (kc rfl (kc rfl (kc rfl kn))))) (kc rfl kn) (sqn (eseq (ereg (qp rfl (qp rfl (qp rfl (qb ?_)))))))))))
 rintro (_ | _) h2
 ·refine qp J (qg J (qp J (qg J (qp J (qg J (hldo J hS J ?_))))))
  refine qg J (qp J (qg J (qp J (qb ?_))))
  rintro (_ | _) h3
  ·refine qp J (qn (kq5 J) kn (ecF J (eskip (bqn (sqn (ereg (hadd J J (i64w (by omega)) (qp J (qk (kq4 J) kn ?_)))))))))
   exact c1_l ds l (i + 1) (by omega) hs hS (fun j h=>hX j (by rw [hd];simp_all [typesOk])) (fun h=>hR (by rw [hd];simp_all [typesOk]))
  refine qp J (qn (kq5 J) kn (ecT J (er (qp J (qn (kq1 J) kn (eret (bqr (sqr ?_))))))))
  exact hR (by rw [hd];simp_all [typesOk];try omega)
 refine qp J (zq5 J (qp J (qn (kq5 J) kn (ecT J (er (qp J (qn (kq1 J) kn (eret (bqr (sqr ?_))))))))))
 exact hR (by rw [hd];simp_all [typesOk];try omega)
termination_by l.length - i
decreasing_by all_goals omega
theorem any_comm (l:List ByteArray) (x:ByteArray):(l.any fun y=>decide (x=y))=l.any fun y=>decide (y=x):=by
 congr 1
 funext y
 rw [Bool.eq_iff_iff]
 simp only [Dte]
 exact eq_comm
theorem c1_c (s:Sg) (ds:List Decl) (x:Xtor) (seen:List ByteArray) (a b m:Nat) (hA:s.ob a=some (.row [.map m])) (hB:s.ob b=some (.row [SL 3 (ds.map Decl.enc)])) (hM:s.ob m=some (.map .str (setS seen))) (hbm:b ≠ m):HC p N101_ [x.enc,.ptr a 0,.ptr b 0] s (fun r s'=>r=[B (xtorOk ds.length seen x)] ∧ Chg (·=m) s s' ∧ (xtorOk ds.length seen x=true → s'.ob m=some (.map .str (setS (seen ++ [x.name]))))):=by
 refine hcf J f101_ J ?_
 simp only [chainOf]
 refine er (hbox (dq3 J) J (lq2 J) (qp J (qn (kq3 J) (kq1 J) (eseq (er (pq2 J (hcall J J J (dXtorName_c _ _) ?_)))))))
 rintro _ _ ⟨rfl,rfl⟩
 refine qb ?_
 rintro (_ | _) h1
 refine pq2 J (zq4 J (pq2 J (zq4 J (qp J (qn (kq4 J) (kq1 J) (ecT J (er (qp J (qn (kq1 J) kn (eret (sqr (fqr J ?_))))))))))))
 rotate_left
 refine pq2 J (qg J (hldo J hA J ?_))
 refine qg J (qp J (qg J (qp J (qg J (hlk J J J hM ?_)))))
 rw [setS_get]
 refine qb ?_
 rintro (_ | _) h2
 refine pq2 J (qg J (qp J (qg J (qp J (qg J (qp J (qg J (qp J (qb ?_)))))))))
 rintro (_ | _) h3
 refine qp J (qn (kq4 J) (kq1 J) (ecF J (eskip (sqn (er (hldo J hA J ?_))))))
 refine pq2 J (hmu J J J J hM ?_)
 rw [show (AV.lit (.bool true)).er=B true from rfl,setS_add]
 refine qn (kq2 J) (kq1 J) (eseq (er (pq4 J (qn (kq4 J) kn (eblock ?_)))))
 refine c1_l (b:=b) ds x.args 0 (by omega) (by simp at h3;omega) (by first | exact hB | (rw [set_ne hbm];exact hB)) ?_ ?_
 intro j ht
 refine bqx (sqn (er (qp J (qn (kq1 J) kn (eret (fqr J ?_))))))
 have hx:xtorOk ds.length seen x=true:=by
  simp_all [xtorOk,any_comm,-List.all_eq_true,-List.all_eq_false,-List.any_eq_true,-List.any_eq_false] <;> omega
 refine ⟨by rw [hx];rfl,(Chg.refl _).set fun _=>rfl,fun h=>set_ob⟩
 intro ht
 refine bqr (sqr (fqr J ?_))
 rotate_left
 refine qp J (qn (kq4 J) (kq1 J) (ecT J (er (qp J (qn (kq1 J) kn (eret (sqr (fqr J ?_))))))))
 rotate_left
 refine pq2 J (zq4 J (qp J (qn (kq4 J) (kq1 J) (ecT J (er (qp J (qn (kq1 J) kn (eret (sqr (fqr J ?_))))))))))
 rotate_left
 all_goals
  have hx:xtorOk ds.length seen x=false:=by
   simp_all [xtorOk,any_comm,-List.all_eq_true,-List.all_eq_false,-List.any_eq_true,-List.any_eq_false] <;> omega
  refine ⟨by rw [hx];rfl,by first | exact Chg.refl _ | exact (Chg.refl _).set fun _=>rfl,fun h=>absurd h (by rw [hx];simp)⟩
structure DV (ds:List Decl) (a b m:Nat) (seen:List ByteArray) (S:Sg):Prop where
 hA:S.ob a=some (.row [.map m])
 hB:S.ob b=some (.row [SL 3 (ds.map Decl.enc)])
 hM:S.ob m=some (.map .str (setS seen))
 al:a < S.nx
 bl:b < S.nx
 ml:m < S.nx
 am:a ≠ m
 bm:b ≠ m
theorem DV.step {ds:List Decl} {a b m:Nat} {seen seen':List ByteArray} {S S':Sg} (h:DV ds a b m seen S) (k:Chg (·=m) S S') (hm:S'.ob m=some (.map .str (setS seen'))):DV ds a b m seen' S' :=
 ⟨(k.ob a h.al h.am).trans h.hA,(k.ob b h.bl h.bm).trans h.hB,hm,Nat.lt_of_lt_of_le h.al k.nx,Nat.lt_of_lt_of_le h.bl k.nx,Nat.lt_of_lt_of_le h.ml k.nx,h.am,h.bm⟩
theorem dV_l2 {pa pb pm:Nat} (ds:List Decl) (l:List Xtor) (seen:List ByteArray) (i:Nat) (hi:i ≤ l.length) (hs:l.length ≤ 2 ^ 40) {x3 x16 x17 x18:AV} {n:Nat} {v:Nat → Bool} {D:List (Nat × List AV)} {S:Sg} {Q:Ex → Fr → Prop}
 (hD:DV ds pa pb pm seen S) (hX:∀ S' seen' j,xtorsOk ds.length seen (l.drop i)=some seen' → Chg (·=pm) S S' → DV ds pa pb pm seen' S' → Q (.exit 2) ⟨uv (uv (uv (uv (uv (uv (uv (uv (uv e0 51 (B false)) 50 (I j)) 49 (I (l.map Xtor.enc).length)) 48 (.slice .none 2 (l.map Xtor.enc))) 18 (x18)) 17 (x17)) 16 (x16)) 5 (.fn N101_ [] [.ptr pa 0,.ptr pb 0])) 3 (x3),(fun _=>none),n,v,D,S'⟩)
 (hR:xtorsOk ds.length seen (l.drop i)=none → ∀ S',Chg (·=pm) S S' → Q .ret ⟨uv e0 2 (B false),(fun _=>none),n,v,D,S'⟩):EX (callL p) (.loop F56_l2) ⟨uv (uv (uv (uv (uv (uv (uv (uv e0 50 (I i)) 49 (I (l.map Xtor.enc).length)) 48 (.slice .none 2 (l.map Xtor.enc))) 18 (x18)) 17 (x17)) 16 (x16)) 5 (.fn N101_ [] [.ptr pa 0,.ptr pb 0])) 3 (x3),(fun _=>none),n,v,D,S⟩ Q:=by
 refine eloop (er (qp J (qb ?_)))
 rintro (_ | _) h1
 ·refine qn (kq9 J) kn (eseq (ecF J (eexit (sqx ?_))))
  exact hX _ _ _ (by rw [List.drop_eq_nil_of_le (by simp at h1 ⊢;omega)];rfl) (Chg.refl _) hD
 refine qn (kq9 J) kn (eseq (ecT J (eskip (sqn (eseq (eblock (er ?_)))))))
 have hlt:i < l.length:=by simpa using h1
 obtain ⟨a,ha⟩:=get_of_lt hlt
 have hd:=drop_cons ha
 refine hia (y:=Xtor.enc a) rfl rfl (by omega) (by simp [ha]) rfl (hlda rfl rfl (lc rfl (lc rfl (ln rfl))) (hal (dc (dc (dc (dc (dc (dc (dc (dc (dc (dc (dc dn rfl) rfl) rfl) rfl) rfl) rfl) rfl) rfl) rfl) rfl) rfl) (hstl rfl rfl rfl rfl (Nlb rfl) (lc rfl (lc rfl (ln rfl))) (qk (kc rfl (kc rfl (kc rfl (kc rfl (kc rfl (kc rfl (kc rfl (kc rfl (kc rfl kn))))))))) (kc rfl kn) (sqn (eseq (ereg (qp rfl (hlda rfl rfl (lc rfl (lc rfl (ln rfl))) (hcall rfl rfl rfl (c1_c _ ds a seen pa pb pm hD.hA hD.hB hD.hM hD.bm) ?_))))))))))
 rintro _ S1 ⟨rfl,hc1,hc2⟩
 refine qb ?_
 rintro (_ | _) h2
 ·refine qp J (qn (kq9 J) kn (ecT J (er (qp J (qn (kq1 J) kn (eret (bqr (sqr ?_))))))))
  have hx:xtorOk ds.length seen a=false:=by assumption
  exact hR (by rw [hd];simp [xtorsOk,hx]) _ hc1
 refine qp J (qn (kq9 J) kn (ecF J (eskip (bqn (sqn (ereg (hadd J J (i64w (by omega)) (qp J (qk (kq8 J) kn ?_)))))))))
 have hx:xtorOk ds.length seen a=true:=by assumption
 exact dV_l2 ds l (seen ++ [a.name]) (i + 1) (by omega) hs (hD.step hc1 (hc2 hx)) (fun S2 seen2 j e c d=>hX S2 seen2 j (by rw [hd];simp only [xtorsOk,hx,if_true];exact e) (hc1.trans c) d) (fun e S2 c=>hR (by rw [hd];simp only [xtorsOk,hx,if_true];exact e) S2 (hc1.trans c))
termination_by l.length - i
decreasing_by all_goals omega
theorem DV.keep {ds:List Decl} {a b m:Nat} {seen:List ByteArray} {S S':Sg} {X:Nat → Prop} (h:DV ds a b m seen S) (k:Chg X S S') (ha:¬ X a) (hb:¬ X b) (hm:¬ X m):DV ds a b m seen S' :=
 ⟨(k.ob a h.al ha).trans h.hA,(k.ob b h.bl hb).trans h.hB,(k.ob m h.ml hm).trans h.hM,Nat.lt_of_lt_of_le h.al k.nx,Nat.lt_of_lt_of_le h.bl k.nx,Nat.lt_of_lt_of_le h.ml k.nx,h.am,h.bm⟩
structure DN (pa pb pm pn:Nat) (names:List ByteArray) (S:Sg):Prop where
 hN:S.ob pn=some (.map .str (setS names))
 nl:pn < S.nx
 na:pa ≠ pn
 nb:pb ≠ pn
 nm:pm ≠ pn
theorem DN.step {pa pb pm pn:Nat} {names names':List ByteArray} {S S':Sg} {X:Nat → Prop} (h:DN pa pb pm pn names S) (k:Chg X S S') (hn:S'.ob pn=some (.map .str (setS names'))):DN pa pb pm pn names' S' :=
 ⟨hn,Nat.lt_of_lt_of_le h.nl k.nx,h.na,h.nb,h.nm⟩
theorem dV_l1 {pa pb pm pn:Nat} (ds:List Decl) (seen:List ByteArray) (i:Nat) (hi:i ≤ ds.length) (hs:ds.length ≤ 2 ^ 40) {n:Nat} {v:Nat → Bool} {D:List (Nat × List AV)} {S:Sg} {Q:Ex → Fr → Prop}
 (hQ:QOK S) (hD:DV ds pa pb pm seen S) (hN:DN pa pb pm pn ((ds.take i).map Decl.name) S) (hX:∀ S' j,declsOk ds.length ((ds.take i).map Decl.name) seen (ds.drop i)=true → Chg (fun j=>j=pm ∨ j=pn) S S' → Q (.exit 0) ⟨uv (uv (uv (uv (uv (uv e0 19 (B false)) 18 (I j)) 17 (I (ds.map Decl.enc).length)) 16 (.slice .none 3 (ds.map Decl.enc))) 5 (.fn N101_ [] [.ptr pa 0,.ptr pb 0])) 3 (.map pn),(fun _=>none),n,v,D,S'⟩)
 (hR:declsOk ds.length ((ds.take i).map Decl.name) seen (ds.drop i)=false → ∀ S',Chg (fun j=>j=pm ∨ j=pn) S S' → Q .ret ⟨uv e0 2 (B false),(fun _=>none),n,v,D,S'⟩):EX (callL p) (.loop F56_l1) ⟨uv (uv (uv (uv (uv e0 18 (I i)) 17 (I (ds.map Decl.enc).length)) 16 (.slice .none 3 (ds.map Decl.enc))) 5 (.fn N101_ [] [.ptr pa 0,.ptr pb 0])) 3 (.map pn),(fun _=>none),n,v,D,S⟩ Q:=by
 refine eloop (er (qp J (qb ?_)))
 rintro (_ | _) h1
 refine qn (kq6 J) kn (eseq (ecF J (eexit (sqx ?_))))
 exact hX _ _ (by rw [List.drop_eq_nil_of_le (by simp at h1 ⊢;omega)];rfl) (Chg.refl _)
 refine qn (kq6 J) kn (eseq (ecT J (eskip (sqn (eseq (eblock (er ?_)))))))
 have hlt:i < ds.length:=by simpa using h1
 obtain ⟨a,ha⟩:=get_of_lt hlt
 have hd:=drop_cons ha
 refine hia (y:=Decl.enc a) rfl rfl (by omega) (by simp [ha]) rfl (hlda rfl rfl (lc rfl (lc rfl (lc rfl (ln rfl)))) (hal (dc (dc (dc (dc (dc (dc (dc (dc dn rfl) rfl) rfl) rfl) rfl) rfl) rfl) rfl) (hstl rfl rfl rfl rfl (Nlb rfl) (lc rfl (lc rfl (lc rfl (ln rfl)))) (qk (kc rfl (kc rfl (kc rfl (kc rfl (kc rfl (kc rfl kn)))))) (kc rfl kn) (sqn (eseq (eseq (ereg (qp rfl (qp rfl (hcall rfl rfl rfl (dName_c _ hQ _) ?_)))))))))))
 rintro _ S1 ⟨rfl,rfl⟩
 refine qb ?_
 rintro (_ | _) h2
 refine pq2 J (zq4 J (pq2 J (zq4 J (pq2 J (zq4 J (qp J (qn (kq7 J) (kq1 J) (ecT J (er ?_)))))))))
 refine qp J (qn (kq1 J) kn (eret (sqr (bqr (sqr ?_)))))
 rotate_left
 refine pq2 J (qg J (qp J (qg J (qp J (qg J (qp J (qg J (hlk J J J hN.hN ?_))))))))
 rw [setS_get]
 refine qb ?_
 rintro (_ | _) h3
 refine pq2 J (qg J (qp J (qg J (qp J (qg J (qp J (qg J (qp J (qb ?_)))))))))
 rintro (_ | _) h4
 refine pq2 J (qg J (qp J (qg J (qp J (qg J (qp J (qg J (qp J (qb ?_)))))))))
 rintro (_ | _) h5
 refine qp J (qn (kq7 J) (kq1 J) (ecF J (eskip (sqn (er (pq3 J (hmu J J J J hN.hN ?_)))))))
 rw [show (AV.lit (.bool true)).er=B true from rfl,setS_add]
 refine qn (kq6 J) (kq1 J) (er (pq4 J (qn (kq8 J) kn (eblock ?_))))
 have hD1:=hD.keep (X:=(·=pn)) (Chg.set (Chg.refl S1) (i:=pn) (o:=.map .str (setS ((ds.take i).map Decl.name ++ [a.name]))) fun _=>rfl) hN.na hN.nb hN.nm
 refine dV_l2 ds a.xtors seen 0 (by omega) (by simp at *;omega) hD1 ?_ ?_
 intro S' seen' j hx hc hD'
 refine bqx (bqn (sqn (ereg (hadd J J (i64w (by omega)) (qp J (qk (kq5 J) kn ?_))))))
 have e:(ds.take (i + 1)).map Decl.name=(ds.take i).map Decl.name ++ [a.name]:=by simp [List.take_add_one,ha]
 have e2:declOk ((ds.take i).map Decl.name) a=true:=by
  clear hX hR
  simp_all [declOk,-List.all_eq_true,-List.all_eq_false,-List.any_eq_true,-List.any_eq_false] <;> omega
 have hy:declsOk ds.length ((ds.take i).map Decl.name) seen (ds.drop i)=declsOk ds.length ((ds.take (i + 1)).map Decl.name) seen' (ds.drop (i + 1)):=by
  rw [hd,e]
  simp only [declsOk,e2,Bta]
  rw [show xtorsOk ds.length seen a.xtors=some seen' from hx]
 have hcc:Chg (fun j=>j=pm ∨ j=pn) S1 S':=(Chg.set (Chg.refl _) fun _=>.inr rfl).trans (hc.mono fun j _ h=>.inl h)
 have hq1:QOK S':=by unfold QOK;rw [hcc.Q];exact hQ
 exact dV_l1 ds seen' (i + 1) (by omega) hs hq1 hD' (hN.step hcc (by rw [e,hc.ob pn hN.nl (Ne.symm hN.nm)];exact set_ob)) (fun S2 j h c=>hX S2 j (hy.trans h) (hcc.trans c)) (fun h S2 c=>hR (hy.trans h) S2 (hcc.trans c))
 intro hx S' hc
 refine bqr (bqr (sqr ?_))
 rotate_left
 refine qp J (qn (kq7 J) (kq1 J) (ecT J (er (qp J (qn (kq1 J) kn (eret (sqr (bqr (sqr ?_)))))))))
 rotate_left
 refine pq2 J (zq4 J (qp J (qn (kq7 J) (kq1 J) (ecT J (er (qp J (qn (kq1 J) kn (eret (sqr (bqr (sqr ?_)))))))))))
 rotate_left
 refine pq2 J (zq4 J (pq2 J (zq4 J (qp J (qn (kq7 J) (kq1 J) (ecT J (er (qp J (qn (kq1 J) kn (eret (sqr (bqr ?_))))))))))))
 refine sqr ?_
 rotate_left
 all_goals
  have hy:declsOk ds.length ((ds.take i).map Decl.name) seen (ds.drop i)=false:=by
   rw [hd]
   clear hX hR
   simp_all [declsOk,declOk,-List.all_eq_true,-List.all_eq_false,-List.any_eq_true,-List.any_eq_false] <;> omega
  exact hR hy _ (by first | exact Chg.refl _ | exact (Chg.set (Chg.refl _) fun _=>.inr rfl).trans (hc.mono fun j _ h=>.inl h))
termination_by ds.length - i
decreasing_by all_goals omega
theorem dv_init (s:Sg) (l:List Decl) :
 let S1:=s.new (.row [SL 3 (l.map Decl.enc)])
 let S2:=S1.new (.map .str fun _=>none)
 let S3:=S2.new (.map .str fun _=>none)
 let S5:=(S3.new (.row [.lit (.map none)])).set S3.nx (.row [.map S2.nx])
 DV l S3.nx s.nx S2.nx [] S5 ∧ DN S3.nx s.nx S2.nx S1.nx [] S5 ∧ Chg (fun j=>s.nx ≤ j) s S5 ∧ S2.nx=s.nx + 2 ∧ S1.nx=s.nx + 1:=by
 refine ⟨⟨?_,?_,?_,?_,?_,?_,?_,?_⟩,⟨?_,?_,?_,?_,?_⟩,?_,J,J⟩
 all_goals first
  | (simp [Sg.set,Sg.new,upd,setS_nil];done)
  | (simp [Sg.set,Sg.new,upd,setS_nil];omega)
  | (rw [set_ne (by simp only [Sg.new];omega),new_lt (by simp only [Sg.new];omega),new_lt (by simp only [Sg.new];omega),new_lt (by simp only [Sg.new];omega)];exact new_ob)
  | (simp only [Sg.set,Sg.new];omega)
  | (refine Chg.set (Chg.new (Chg.new (Chg.new (Chg.new (Chg.refl s))))) fun _=>?_;simp only [Sg.new];omega)
theorem dValid_c (s:Sg) (hQ:QOK s) (l:List Decl) (hl:l.length ≤ 2 ^ 40):HC p N56_ [SL 3 (l.map Decl.enc)] s (fun r s'=>r=[B (declsValid l)] ∧ Ext s s'):=by
 refine hcf J f56_ J ?_
 simp only [chainOf]
 refine er (hboxo J (lq1 J) (qp J (qn (kq1 J) kn (eseq (er (hldo J new_ob J ?_))))))
 refine pq2 J (qb ?_)
 rintro (_ | _) h1
 refine qn (kq2 J) kn (ecF J (eskip (sqn (er (hmkm (hmkm (hall (qp J (hsto J J new_ob J (Nlb J) (by simp) (by rfl) (qn (kq3 J) kn (er (pq2 J (qn (kq3 J) kn (eseq (er (hldo J (dv_init s l).1.hB J ?_))))))))))))))))
 refine pq2 J (qn (kq5 J) kn (eblock ?_))
 refine dV_l1 l [] 0 (by omega) (by omega) hQ (dv_init s l).1 (dv_init s l).2.1 ?_ ?_
 intro S' j hx hc
 refine bqx (sqn (er (qp J (qn (kq1 J) kn (eret (fqr J ?_))))))
 have hv:declsValid l=true:=by
  unfold declsValid
  have hx':declsOk l.length [] [] l=true:=hx
  rw [hx'];simp at *;omega
 refine ⟨by rw [hv];rfl,?_⟩
 obtain ⟨_,_,i3,i4,i5⟩:=dv_init s l
 exact (i3.trans (hc.mono fun j _ h=>by rcases h with h | h <;> (rw [h];simp only [Sg.new];omega))).ext fun i h=>h
 intro hx S' hc
 refine bqr (sqr (fqr J ?_))
 rotate_left
 refine qn (kq2 J) kn (ecT J (er (qp J (qn (kq1 J) kn (eret (sqr (fqr J ?_)))))))
 rotate_left
 all_goals
  first
  | (have hv:declsValid l=false:=by
      unfold declsValid
      have hx':declsOk l.length [] [] l=false:=hx
      rw [hx'];simp
     refine ⟨by rw [hv];rfl,?_⟩
     obtain ⟨_,_,i3,i4,i5⟩:=dv_init s l
     exact (i3.trans (hc.mono fun j _ h=>by rcases h with h | h <;> (rw [h];simp only [Sg.new];omega))).ext fun i h=>h)
  | (refine ⟨?_,Ext.new⟩;simp_all [AV.ers,AV.er,declsValid];try omega)
end Go.Sim.Kd
namespace Go.Sim.Kd
open Go Go.Sim
def sideOf (co:Bool):Int:=if co then 1 else 0
def sortOf (x:Int):Int:=if x < 0 ∨ 14 < x then -1 else if x ≤ 4 then 0 else if x ≤ 8 then 1 else 2
def numOk (x:Int):Bool:=decide (0 ≤ x) && decide (x ≤ 1048576)
def leafOp (x:Int):Bool:=decide (x=0) || decide (x=5) || decide (x=1)
def declAt (ds:List Decl) (t:Int):Option Decl:=if 1 ≤ t then ds[(t - 1).toNat]? else none
def codataAt (ds:List Decl) (t:Int):Bool:=match declAt ds t with
 | some d=>d.codata
 | none=>false
def dataAt (ds:List Decl) (t:Int):Bool:=match declAt ds t with
 | some d=>!d.codata
 | none=>false
def hasAt (ds:List Decl) (t n:Int):Bool:=match declAt ds t with
 | some d=>decide (0 ≤ n) && decide (n < d.xtors.length)
 | none=>false
theorem declAt_some {ds:List Decl} {t:Int} (h1:1 ≤ t) (h2:t ≤ ds.length):∃ d,declAt ds t=some d ∧ ds[(t - 1).toNat]?=some d:=by
 obtain ⟨d,hd⟩:=get_of_lt (l:=ds) (i:=(t - 1).toNat) (by omega)
 exact ⟨d,by rw [declAt,if_pos h1];exact hd,hd⟩
theorem declAt_none {ds:List Decl} {t:Int} (h:t < 1 ∨ ds.length < t):declAt ds t=none:=by
 unfold declAt
 split
 ·exact List.getElem?_eq_none (by omega)
 rfl
theorem declAt_bounds {ds:List Decl} {t:Int} {d:Decl} (h:declAt ds t=some d):1 ≤ t ∧ t ≤ ds.length:=by
 unfold declAt at h
 split at h
 ·rcases Nat.lt_or_ge (t - 1).toNat ds.length with h' | h'
  ·omega
  rw [List.getElem?_eq_none h'] at h;cases h
 cases h
theorem cside_c (s:Sg) (b:Bool):HC p N106_ [B b] s (fun r s'=>r=[I (sideOf b)] ∧ s'=s):=by
 refine hcf J f106_ J ?_
 simp only [chainOf]
 refine er (qp J (qn (kq1 J) kn (eseq (er (qp J (qb ?_))))))
 rintro (_ | _) h1
 ·refine qn (kq1 J) kn (ecF J (eskip (sqn (er (qp J (qn (kq1 J) kn (eret (fqr J ?_))))))))
  refine ⟨?_,rfl⟩;simp_all [AV.ers,AV.er,sideOf] <;> omega
 refine qn (kq1 J) kn (ecT J (er (qp J (qn (kq1 J) kn (eret (sqr (fqr J ?_)))))))
 refine ⟨?_,rfl⟩;simp_all [AV.ers,AV.er,sideOf] <;> omega
theorem number_c (s:Sg) (x:Int):HC p N107_ [I x] s (fun r s'=>r=[B (numOk x)] ∧ s'=s):=by
 refine hcf J f107_ J ?_
 simp only [chainOf]
 refine er (qp J (qn (kq1 J) kn (er (pq2 J (qb ?_)))))
 rintro (_ | _) h1
 ·refine qp J (zq2 J (pq2 J (qn (kq1 J) kn (eret (fqr J ?_)))))
  refine ⟨?_,rfl⟩;simp_all [AV.ers,AV.er,numOk] <;> omega
 refine qp J (qg J (qp J (qg J (pq3 J (qn (kq1 J) kn (eret (fqr J ?_)))))))
 refine ⟨?_,rfl⟩;simp_all [AV.ers,AV.er,numOk] <;> omega
theorem Sort_c (s:Sg) (x:Int):HC p N62_ [I x] s (fun r s'=>r=[I (sortOf x)] ∧ s'=s):=by
 refine hcf J f62_ J ?_
 simp only [chainOf]
 refine er (qp J (qn (kq1 J) kn (eseq (eblock (er (pq2 J (qb ?_)))))))
 rintro (_ | _) h1
 refine qp J (qg J (qp J (qg J (qp J (qb ?_)))))
 rintro (_ | _) h2
 refine pq2 J (qn (kq2 J) kn (ecF J (er (pq2 J (qb ?_)))))
 rintro (_ | _) h3
 refine qp J (qn (kq2 J) kn (ecF J (er (pq2 J (qb ?_)))))
 rintro (_ | _) h4
 refine qp J (qn (kq1 J) kn (ecF J (eskip (bqn (sqn (er (qp J (qn (kq1 J) kn (eret (fqr J ?_))))))))))
 rotate_left
 refine qp J (qn (kq1 J) kn (ecT J (er (qp J (qn (kq1 J) kn (eret (bqr (sqr (fqr J ?_)))))))))
 rotate_left
 refine qp J (qn (kq2 J) kn (ecT J (er (qp J (qn (kq1 J) kn (eret (bqr (sqr (fqr J ?_)))))))))
 rotate_left
 refine pq2 J (qn (kq2 J) kn (ecT J (er (qp J (qn (kq1 J) kn (eret (bqr (sqr (fqr J ?_)))))))))
 rotate_left
 refine qp J (zq2 J (pq2 J (qn (kq2 J) kn (ecT J (er (qp J (qn (kq1 J) kn (eret (bqr (sqr (fqr J ?_)))))))))))
 rotate_left
 all_goals
  refine ⟨?_,rfl⟩;simp [AV.ers,AV.er,sortOf] at *;try omega
theorem Kind_c (s:Sg) (x:Int):HC p N34_ [I x] s (fun r s'=>r=[I (sortOf x + 1)] ∧ s'=s):=by
 refine hcf J f34_ J ?_
 simp only [chainOf]
 refine er (qp J (qn (kq1 J) kn (eseq (eblock (er (pq2 J (qb ?_)))))))
 rintro (_ | _) h1
 refine qp J (zq2 J (pq2 J (qn (kq2 J) kn (ecF J (er (pq2 J (qb ?_)))))))
 rintro (_ | _) h2
 refine qp J (zq2 J (pq2 J (qn (kq2 J) kn (ecF J (er (pq2 J (qb ?_)))))))
 rintro (_ | _) h3
 rotate_left
 refine qp J (qg J (qp J (qg J (qp J (qb ?_)))))
 rintro (_ | _) h4
 refine pq2 J (qn (kq1 J) kn (ecF J (eskip (bqn (sqn (er (qp J (qn (kq1 J) kn (eret (fqr J ?_))))))))))
 refine ⟨?_,rfl⟩;simp [AV.ers,AV.er,sortOf] at *;try omega
 refine pq2 J (qn (kq1 J) kn (ecT J (er (qp J (qn (kq1 J) kn (eret (bqr (sqr (fqr J ?_)))))))))
 refine ⟨?_,rfl⟩;simp [AV.ers,AV.er,sortOf] at *;try omega
 refine qp J (qg J (qp J (qg J (qp J (qb ?_)))))
 rintro (_ | _) h5
 refine pq2 J (qn (kq2 J) kn (ecF J (er (pq2 J (qb ?_)))))
 rintro (_ | _) h6
 rotate_left
 refine qp J (qg J (qp J (qg J (qp J (qb ?_)))))
 rintro (_ | _) h7
 refine pq2 J (qn (kq1 J) kn (ecF J (eskip (bqn (sqn (er (qp J (qn (kq1 J) kn (eret (fqr J ?_))))))))))
 refine ⟨?_,rfl⟩;simp [AV.ers,AV.er,sortOf] at *;try omega
 refine pq2 J (qn (kq1 J) kn (ecT J (er (qp J (qn (kq1 J) kn (eret (bqr (sqr (fqr J ?_)))))))))
 refine ⟨?_,rfl⟩;simp [AV.ers,AV.er,sortOf] at *;try omega
 refine pq2 J (qn (kq2 J) kn (ecT J (er (qp J (qn (kq1 J) kn (eret (bqr (sqr (fqr J ?_)))))))))
 refine ⟨?_,rfl⟩;simp [AV.ers,AV.er,sortOf] at *;try omega
 refine qp J (qg J (qp J (qg J (qp J (qb ?_)))))
 rintro (_ | _) h8
 refine pq2 J (qn (kq2 J) kn (ecF J (er (pq2 J (qb ?_)))))
 rintro (_ | _) h9
 refine qp J (zq2 J (pq2 J (qn (kq2 J) kn (ecF J (er (pq2 J (qb ?_)))))))
 rintro (_ | _) h10
 rotate_left
 refine qp J (qg J (qp J (qg J (qp J (qb ?_)))))
 rintro (_ | _) h11
 refine pq2 J (qn (kq1 J) kn (ecF J (eskip (bqn (sqn (er (qp J (qn (kq1 J) kn (eret (fqr J ?_))))))))))
 refine ⟨?_,rfl⟩;simp [AV.ers,AV.er,sortOf] at *;try omega
 refine pq2 J (qn (kq1 J) kn (ecT J (er (qp J (qn (kq1 J) kn (eret (bqr (sqr (fqr J ?_)))))))))
 refine ⟨?_,rfl⟩;simp [AV.ers,AV.er,sortOf] at *;try omega
 refine qp J (qg J (qp J (qg J (qp J (qb ?_)))))
 rintro (_ | _) h12
 refine pq2 J (qn (kq2 J) kn (ecF J (er (pq2 J (qb ?_)))))
 rintro (_ | _) h13
 rotate_left
 refine qp J (qg J (qp J (qg J (qp J (qb ?_)))))
 rintro (_ | _) h14
 refine pq2 J (qn (kq1 J) kn (ecF J (eskip (bqn (sqn (er (qp J (qn (kq1 J) kn (eret (fqr J ?_))))))))))
 refine ⟨?_,rfl⟩;simp [AV.ers,AV.er,sortOf] at *;try omega
 refine pq2 J (qn (kq1 J) kn (ecT J (er (qp J (qn (kq1 J) kn (eret (bqr (sqr (fqr J ?_)))))))))
 refine ⟨?_,rfl⟩;simp [AV.ers,AV.er,sortOf] at *;try omega
 refine pq2 J (qn (kq2 J) kn (ecT J (er (qp J (qn (kq1 J) kn (eret (bqr (sqr (fqr J ?_)))))))))
 refine ⟨?_,rfl⟩;simp [AV.ers,AV.er,sortOf] at *;try omega
 refine pq2 J (qn (kq2 J) kn (ecT J (er (qp J (qn (kq1 J) kn (eret (bqr (sqr (fqr J ?_)))))))))
 refine ⟨?_,rfl⟩;simp [AV.ers,AV.er,sortOf] at *;try omega
 all_goals
  refine qp J (zq2 J (pq2 J (qn (kq1 J) kn (ecF J (eskip (bqn (sqn (er (qp J (qn (kq1 J) kn (eret (fqr J ?_))))))))))))
  refine ⟨?_,rfl⟩;simp [AV.ers,AV.er,sortOf] at *;try omega
theorem Leaf_c (s:Sg) (x:Int):HC p N76_ [I x] s (fun r s'=>r=[B (leafOp x)] ∧ s'=s):=by
 refine hcf J f76_ J ?_
 simp only [chainOf]
 refine er (qp J (qn (kq1 J) kn (er (pq2 J (qb ?_)))))
 rintro (_ | _) h1
 ·refine qp J (qg J (qp J (qg J (qp J (qb ?_)))))
  rintro (_ | _) h2
  ·refine pq2 J (qg J (qp J (qg J (pq3 J (qn (kq1 J) kn (eret (fqr J ?_)))))))
   refine ⟨?_,rfl⟩;simp_all [AV.ers,AV.er,leafOp] <;> omega
  refine pq2 J (zq2 J (pq2 J (qn (kq1 J) kn (eret (fqr J ?_)))))
  refine ⟨?_,rfl⟩;simp_all [AV.ers,AV.er,leafOp] <;> omega
 refine qp J (zq2 J (pq2 J (zq2 J (pq2 J (qn (kq1 J) kn (eret (fqr J ?_)))))))
 refine ⟨?_,rfl⟩;simp_all [AV.ers,AV.er,leafOp] <;> omega
theorem Codata_c (s:Sg) (ds:List Decl) (t:Int) (hl:ds.length ≤ 2 ^ 40):HC p N121_ [SL 3 (ds.map Decl.enc),I t] s (fun r s'=>r=[B (codataAt ds t)] ∧ s'=s):=by
 refine hcf J f121_ J ?_
 simp only [chainOf]
 refine er (qp J (qn (kq2 J) kn (er (pq2 J (qb ?_)))))
 rintro (_ | _) h1
 refine qp J (zq4 J (pq2 J (zq6 J (pq2 J (qn (kq1 J) kn (eret (fqr J ?_)))))))
 rotate_left
 refine qp J (qg J (qp J (qg J (qp J (qg J (qp J (qg J (qp J (qb ?_)))))))))
 rintro (_ | _) h2
 refine pq2 J (zq6 J (pq2 J (qn (kq1 J) kn (eret (fqr J ?_)))))
 rotate_left
 refine pq2 rfl (qg rfl (qp rfl (qg rfl (qp rfl (qg rfl (hsub rfl rfl (i64w (by simp at *;omega)) (qg rfl ?_)))))))
 obtain ⟨d,hd1,hd2⟩:=declAt_some (ds:=ds) (t:=t) (by simp at *;omega) (by simp at *;omega)
 refine hia (y:=Decl.enc d) rfl rfl (by simp at *;omega) (by rw [Lgm,hd2];rfl) rfl ?_
 refine qg J (qp J (qg J (pq3 J (qn (kq1 J) kn (eret (fqr J ?_))))))
 rotate_left
 all_goals
  refine ⟨?_,J⟩
  first
  | (rw [show codataAt ds t=_ from by unfold codataAt;rw [hd1]];simp_all [AV.ers,AV.er];done)
  | (rw [show codataAt ds t=false from by unfold codataAt;rw [declAt_none (by simp at *;omega)]];rfl)
theorem Data_c (s:Sg) (ds:List Decl) (t:Int) (hl:ds.length ≤ 2 ^ 40):HC p N124_ [SL 3 (ds.map Decl.enc),I t] s (fun r s'=>r=[B (dataAt ds t)] ∧ s'=s):=by
 refine hcf J f124_ J ?_
 simp only [chainOf]
 refine er (qp J (qn (kq2 J) kn (er (pq2 J (qb ?_)))))
 rintro (_ | _) h1
 refine qp J (zq4 J (pq2 J (zq7 J (pq2 J (qn (kq1 J) kn (eret (fqr J ?_)))))))
 rotate_left
 refine qp J (qg J (qp J (qg J (qp J (qg J (qp J (qg J (qp J (qb ?_)))))))))
 rintro (_ | _) h2
 refine pq2 J (zq7 J (pq2 J (qn (kq1 J) kn (eret (fqr J ?_)))))
 rotate_left
 refine pq2 rfl (qg rfl (qp rfl (qg rfl (qp rfl (qg rfl (hsub rfl rfl (i64w (by simp at *;omega)) (qg rfl ?_)))))))
 obtain ⟨d,hd1,hd2⟩:=declAt_some (ds:=ds) (t:=t) (by simp at *;omega) (by simp at *;omega)
 refine hia (y:=Decl.enc d) rfl rfl (by simp at *;omega) (by rw [Lgm,hd2];rfl) rfl ?_
 refine qg J (qp J (qg J (qp J (qg J (pq3 J (qn (kq1 J) kn (eret (fqr J ?_))))))))
 rotate_left
 all_goals
  refine ⟨?_,J⟩
  first
  | (rw [show dataAt ds t=_ from by unfold dataAt;rw [hd1]];simp_all [AV.ers,AV.er];done)
  | (rw [show dataAt ds t=false from by unfold dataAt;rw [declAt_none (by simp at *;omega)]];rfl)
theorem take_map {α β:Type} {g:α → β} {l:List α} {i:Nat} {a:α} (ha:l[i]?=some a):(l.take i).map g ++ [g a]=(l.take (i + 1)).map g:=by simp [List.take_add_one,ha]
theorem cos_l (l:List Arg) (o:Own) (i:Nat) (hi:i ≤ l.length) (hs:l.length ≤ 2 ^ 40) {n:Nat} {v:Nat → Bool} {D:List (Nat × List AV)} {S:Sg} {Q:Ex → Fr → Prop}
 (hc:Can o v) (hX:∀ j n' v' o',Can o' v' → Q (.exit 0) ⟨uv (uv (uv (uv (uv e0 9 (B false)) 8 (I j)) 7 (I (l.map Arg.enc).length)) 6 (.slice .none 2 (l.map Arg.enc))) 3 (.slice o' 1 (l.map (fun a=>B a.co))),(fun _=>none),n',v',D,S⟩):EX (callL p) (.loop F75_l1) ⟨uv (uv (uv (uv e0 8 (I i)) 7 (I (l.map Arg.enc).length)) 6 (.slice .none 2 (l.map Arg.enc))) 3 (.slice o 1 ((l.take i).map (fun a=>B a.co))),(fun _=>none),n,v,D,S⟩ Q:=by
 refine eloop (er (qp J (qb ?_)))
 rintro (_ | _) h1
 ·refine qn (kq5 J) kn (eseq (ecF J (eexit (sqx ?_))))
  have he:i=l.length:=by simp at h1;omega
  subst he
  rw [List.take_length]
  exact hX _ _ _ _ hc
 refine qn (kq5 J) kn (eseq (ecT J (eskip (sqn (eseq (eblock (er ?_)))))))
 have hlt:i < l.length:=by simpa using h1
 obtain ⟨a,ha⟩:=get_of_lt hlt
 have hd:=drop_cons ha
 refine hia (y:=Arg.enc a) rfl rfl (by omega) (by simp [ha]) rfl (hlda rfl rfl (lc rfl (lc rfl (ln rfl))) (hal (dc (dc (dc (dc (dc (dc (dc dn rfl) rfl) rfl) rfl) rfl) rfl) rfl) (hstl rfl rfl rfl rfl (Nlb rfl) (lc rfl (lc rfl (ln rfl))) (qk (kc rfl (kc rfl (kc rfl (kc rfl (kc rfl kn))))) (kc rfl kn) (sqn (ereg (qp rfl (qp rfl (qp rfl (hbsl rfl rfl (lc rfl (ln rfl)) (hapC rfl rfl hc (by simp) (by simp;omega) (r:=(l.take (i + 1)).map (fun a=>B a.co)) (by rw [← take_map (g:=fun a=>B a.co) ha];simp_all [AV.ers,AV.er,AV.er,sideOf]) ?_)))))))))))
 intro v1 hc1 _
 refine qp J (qk (kq4 J) kn (bqn (sqn (ereg (hadd J J (i64w (by omega)) (qp J (qk (kq4 J) kn ?_)))))))
 exact cos_l l (.tip n) (i + 1) (by omega) hs hc1 hX
termination_by l.length - i
decreasing_by all_goals omega
theorem cos_c (s:Sg) (l:List Arg) (hl:l.length ≤ 2 ^ 40):HC p N75_ [SL 2 (l.map Arg.enc)] s (fun r s'=>r=[SL 1 (l.map (fun a=>B a.co))] ∧ s'=s):=by
 refine hcf J f75_ J ?_
 simp only [chainOf]
 refine er (qp J (qn (kq1 J) kn (er (qp J (qn (kq2 J) kn (eseq (er (pq3 J (qn (kq4 J) kn (eblock (cos_l l .full 0 (by omega) hl trivial ?_)))))))))))
 intro j n' v' o' hc
 refine bqx (sqn (er (pq2 J (qn (kq1 J) kn (eret (fqr J ?_))))))
 exact ⟨rfl,rfl⟩
theorem sides_l (l:List Arg) (o:Own) (i:Nat) (hi:i ≤ l.length) (hs:l.length ≤ 2 ^ 40) {n:Nat} {v:Nat → Bool} {D:List (Nat × List AV)} {S:Sg} {Q:Ex → Fr → Prop}
 (hc:Can o v) (hX:∀ j n' v' o',Can o' v' → Q (.exit 0) ⟨uv (uv (uv (uv (uv e0 9 (B false)) 8 (I j)) 7 (I (l.map Arg.enc).length)) 6 (.slice .none 2 (l.map Arg.enc))) 3 (.slice o' 1 (l.map (fun a=>B a.co))),(fun _=>none),n',v',D,S⟩):EX (callL p) (.loop F61_l1) ⟨uv (uv (uv (uv e0 8 (I i)) 7 (I (l.map Arg.enc).length)) 6 (.slice .none 2 (l.map Arg.enc))) 3 (.slice o 1 ((l.take i).map (fun a=>B a.co))),(fun _=>none),n,v,D,S⟩ Q:=by
 refine eloop (er (qp J (qb ?_)))
 rintro (_ | _) h1
 ·refine qn (kq5 J) kn (eseq (ecF J (eexit (sqx ?_))))
  have he:i=l.length:=by simp at h1;omega
  subst he
  rw [List.take_length]
  exact hX _ _ _ _ hc
 refine qn (kq5 J) kn (eseq (ecT J (eskip (sqn (eseq (eblock (er ?_)))))))
 have hlt:i < l.length:=by simpa using h1
 obtain ⟨a,ha⟩:=get_of_lt hlt
 have hd:=drop_cons ha
 refine hia (y:=Arg.enc a) rfl rfl (by omega) (by simp [ha]) rfl (hlda rfl rfl (lc rfl (lc rfl (ln rfl))) (hal (dc (dc (dc (dc (dc (dc (dc dn rfl) rfl) rfl) rfl) rfl) rfl) rfl) (hstl rfl rfl rfl rfl (Nlb rfl) (lc rfl (lc rfl (ln rfl))) (qk (kc rfl (kc rfl (kc rfl (kc rfl (kc rfl kn))))) (kc rfl kn) (sqn (ereg (qp rfl (qp rfl (qp rfl (hbsl rfl rfl (lc rfl (ln rfl)) (hapC rfl rfl hc (by simp) (by simp;omega) (r:=(l.take (i + 1)).map (fun a=>B a.co)) (by rw [← take_map (g:=fun a=>B a.co) ha];simp_all [AV.ers,AV.er,AV.er,sideOf]) ?_)))))))))))
 intro v1 hc1 _
 refine qp J (qk (kq4 J) kn (bqn (sqn (ereg (hadd J J (i64w (by omega)) (qp J (qk (kq4 J) kn ?_)))))))
 exact sides_l l (.tip n) (i + 1) (by omega) hs hc1 hX
termination_by l.length - i
decreasing_by all_goals omega
theorem sides_c (s:Sg) (l:List Arg) (hl:l.length ≤ 2 ^ 40):HC p N61_ [SL 2 (l.map Arg.enc)] s (fun r s'=>r=[SL 1 (l.map (fun a=>B a.co))] ∧ s'=s):=by
 refine hcf J f61_ J ?_
 simp only [chainOf]
 refine er (qp J (qn (kq1 J) kn (er (qp J (qn (kq2 J) kn (eseq (er (pq3 J (qn (kq4 J) kn (eblock (sides_l l .full 0 (by omega) hl trivial ?_)))))))))))
 intro j n' v' o' hc
 refine bqx (sqn (er (pq2 J (qn (kq1 J) kn (eret (fqr J ?_))))))
 exact ⟨rfl,rfl⟩
theorem kinds_l (l:List Arg) (o:Own) (i:Nat) (hi:i ≤ l.length) (hs:l.length ≤ 2 ^ 40) {n:Nat} {v:Nat → Bool} {D:List (Nat × List AV)} {S:Sg} {Q:Ex → Fr → Prop}
 (hc:Can o v) (hX:∀ j n' v' o',Can o' v' → Q (.exit 0) ⟨uv (uv (uv (uv (uv e0 9 (B false)) 8 (I j)) 7 (I (l.map Arg.enc).length)) 6 (.slice .none 2 (l.map Arg.enc))) 3 (.slice o' 1 (l.map (fun a=>I (sideOf a.co + 1)))),(fun _=>none),n',v',D,S⟩):EX (callL p) (.loop F123_l1) ⟨uv (uv (uv (uv e0 8 (I i)) 7 (I (l.map Arg.enc).length)) 6 (.slice .none 2 (l.map Arg.enc))) 3 (.slice o 1 ((l.take i).map (fun a=>I (sideOf a.co + 1)))),(fun _=>none),n,v,D,S⟩ Q:=by
 refine eloop (er (qp J (qb ?_)))
 rintro (_ | _) h1
 refine qn (kq5 J) kn (eseq (ecF J (eexit (sqx ?_))))
 have he:i=l.length:=by simp at h1;omega
 subst he
 rw [List.take_length]
 exact hX _ _ _ _ hc
 refine qn (kq5 J) kn (eseq (ecT J (eskip (sqn (eseq (eblock (er ?_)))))))
 have hlt:i < l.length:=by simpa using h1
 obtain ⟨a,ha⟩:=get_of_lt hlt
 have hd:=drop_cons ha
 refine hia (y:=Arg.enc a) rfl rfl (by omega) (by simp [ha]) rfl (hlda rfl rfl (lc rfl (lc rfl (ln rfl))) (hal (dc (dc (dc (dc (dc (dc (dc dn rfl) rfl) rfl) rfl) rfl) rfl) rfl) (hstl rfl rfl rfl rfl (Nlb rfl) (lc rfl (lc rfl (ln rfl))) (qk (kc rfl (kc rfl (kc rfl (kc rfl (kc rfl kn))))) (kc rfl kn) (sqn (eseq (ereg (qp rfl (qp rfl (qb ?_))))))))))
 rintro (_ | _) h2
 refine qk (kc rfl (kc rfl (kc rfl (kc rfl (kc rfl kn))))) kn (sqn (ecF rfl (ereg (qp rfl (hbsl rfl rfl (lc rfl (ln rfl)) (hapC rfl rfl hc (by simp) (by simp;omega) (r:=(l.take (i + 1)).map (fun a=>I (sideOf a.co + 1))) (by rw [← take_map (g:=fun a=>I (sideOf a.co + 1)) ha];simp_all [AV.ers,AV.er,AV.er,sideOf]) ?_))))))
 rotate_left
 refine qk (kc rfl (kc rfl (kc rfl (kc rfl (kc rfl kn))))) kn (sqn (ecT rfl (ereg (qp rfl (hbsl rfl rfl (lc rfl (ln rfl)) (hapC rfl rfl hc (by simp) (by simp;omega) (r:=(l.take (i + 1)).map (fun a=>I (sideOf a.co + 1))) (by rw [← take_map (g:=fun a=>I (sideOf a.co + 1)) ha];simp_all [AV.ers,AV.er,AV.er,sideOf]) ?_))))))
 rotate_left
 all_goals
  intro v1 hc1 _
  refine qp J (qk (kq4 J) kn (bqn (sqn (ereg (hadd J J (i64w (by omega)) (qp J (qk (kq4 J) kn ?_)))))))
  exact kinds_l l (.tip n) (i + 1) (by omega) hs hc1 hX
termination_by l.length - i
decreasing_by all_goals omega
theorem kinds_c (s:Sg) (l:List Arg) (hl:l.length ≤ 2 ^ 40):HC p N123_ [SL 2 (l.map Arg.enc)] s (fun r s'=>r=[SL 1 (l.map (fun a=>I (sideOf a.co + 1)))] ∧ s'=s):=by
 refine hcf J f123_ J ?_
 simp only [chainOf]
 refine er (qp J (qn (kq1 J) kn (er (qp J (qn (kq2 J) kn (eseq (er (pq3 J (qn (kq4 J) kn (eblock (kinds_l l .full 0 (by omega) hl trivial ?_)))))))))))
 intro j n' v' o' hc
 refine bqx (sqn (er (pq2 J (qn (kq1 J) kn (eret (fqr J ?_))))))
 exact ⟨rfl,rfl⟩
end Go.Sim.Kd
namespace Go.Sim.Kd
open Go Go.Sim
mutual
def nAll:Node → Nat
 | .mk _ _ _ args brs=>1 + nAlls args + bAlls brs
def nAlls:List Node → Nat
 | []=>0
 | a :: as=>nAll a + nAlls as
def bAll:Br → Nat
 | .mk _ _ body=>nAll body
def bAlls:List Br → Nat
 | []=>0
 | a :: as=>bAll a + bAlls as
end
theorem nAlls_eq (l:List Node):nAlls l=szL nAll l:=by induction l with
 | nil=>rfl
 | cons a l ih=>simp [nAlls,szL,ih]
theorem bAll_eq (b:Br):bAll b=nAll b.body:=by cases b;rfl
theorem bAlls_eq (l:List Br):bAlls l=szL (fun b=>nAll b.body) l:=by induction l with
 | nil=>rfl
 | cons a l ih=>simp [bAlls,szL,ih,bAll_eq]
theorem nAll_eq (a:Node):nAll a=1 + szL nAll a.args + szL (fun b=>nAll b.body) a.brs:=by
 cases a
 simp only [nAll,nAlls_eq,bAlls_eq]
 rfl
theorem szL_drop {α:Type} {f:α → Nat} {l:List α} {i:Nat} {a:α} (h:l[i]?=some a):szL f (l.drop i)=f a + szL f (l.drop (i + 1)):=by rw [drop_cons h];rfl
theorem szL_end {α:Type} {f:α → Nat} {l:List α} {i:Nat} (h:l.length ≤ i):szL f (l.drop i)=0:=by rw [List.drop_eq_nil_of_le h];rfl
def LeftC (b:Node):Prop:=∀ (s:Sg) (m:Int),1 ≤ m → m ≤ 2 ^ 40 → HC p N50_ [.agg b.cs,I m] s (fun r s'=>r=[I (max (m - nAll b) 0)] ∧ s'=s)
theorem left_l1 (a:Node) (H:∀ b ∈ a.args,LeftC b) (hs:a.args.length ≤ 2 ^ 40) (i:Nat) (hi:i ≤ a.args.length) (m:Int) (hm:0 ≤ m) (hm2:m ≤ 2 ^ 40) {n:Nat} {v:Nat → Bool} {D:List (Nat × List AV)} {S:Sg} {Q:Ex → Fr → Prop}
 (hX:∀ j k,k=max (m - szL nAll (a.args.drop i)) 0 → Q (.exit 0) ⟨uv (upd (uv (uv e0 17 (B false)) 5 (I j)) 2 (some (.loc 2 0))) 1 (I k),upd ((fun _=>none)) 2 (some (a.cs)),n,v,D,S⟩):EX (callL p) (.loop F50_l1) ⟨uv (upd (uv e0 5 (I i)) 2 (some (.loc 2 0))) 1 (I m),upd ((fun _=>none)) 2 (some (a.cs)),n,v,D,S⟩ Q:=by
 refine eloop (eseq (er (pq5 J (qb ?_))))
 rintro (_ | _) h1
 ·refine qp J (zq2 J (qp J (qn (kq4 J) (kq1 J) (ecF J (eexit (sqx ?_))))))
  first
  | exact hX _ _ (by rw [szL_end (by simp at h1;omega)];omega)
  | exact hX _ _ (by simp at *;omega)
 refine qp J (qg J (qp J (qg J (qp J (qb ?_)))))
 rintro (_ | _) h2
 ·refine qp J (qn (kq4 J) (kq1 J) (ecF J (eexit (sqx ?_))))
  first
  | exact hX _ _ (by rw [szL_end (by simp at h1;omega)];omega)
  | exact hX _ _ (by simp at *;omega)
 refine qp J (qn (kq4 J) (kq1 J) (ecT J (eskip (sqn (eseq (eblock (ereg (pq3 J ?_))))))))
 have hlt:i < a.args.length:=by simpa using h1
 have hm1:1 ≤ m:=by simp at *;omega
 obtain ⟨b,hb⟩:=get_of_lt hlt
 refine hia (y:=.agg (b.cs)) rfl rfl (by omega) (by simp [hb,Node.enc_eq]) rfl (hlda rfl rfl (lc rfl (lc rfl (lc rfl (lc rfl (lc rfl (ln rfl)))))) (qp rfl (hcall rfl rfl rfl (H b (Lmg hb) _ m hm1 hm2) ?_)))
 rintro _ _ ⟨rfl,rfl⟩
 refine qp J (qk (kq3 J) (kq1 J) (bqn (sqn (ereg (qp J (hadd J J (i64w (by omega)) (qp J (qk (kq3 J) (kq1 J) ?_))))))))
 exact left_l1 a H hs (i + 1) (by omega) _ (by omega) (by omega) (fun j k h=>hX j k (by rw [szL_drop hb,h];omega))
termination_by a.args.length - i
decreasing_by all_goals omega
theorem left_l2 (a:Node) (H:∀ b ∈ a.brs,LeftC b.body) (hs:a.brs.length ≤ 2 ^ 40) (i:Nat) (hi:i ≤ a.brs.length) (m:Int) (hm:0 ≤ m) (hm2:m ≤ 2 ^ 40) {n:Nat} {v:Nat → Bool} {D:List (Nat × List AV)} {S:Sg} {Q:Ex → Fr → Prop}
 (hX:∀ j k,k=max (m - szL (fun b=>nAll b.body) (a.brs.drop i)) 0 → Q (.exit 2) ⟨uv (upd (uv (uv e0 35 (B false)) 6 (I j)) 2 (some (.loc 2 0))) 1 (I k),upd ((fun _=>none)) 2 (some (a.cs)),n,v,D,S⟩):EX (callL p) (.loop F50_l2) ⟨uv (upd (uv e0 6 (I i)) 2 (some (.loc 2 0))) 1 (I m),upd ((fun _=>none)) 2 (some (a.cs)),n,v,D,S⟩ Q:=by
 refine eloop (eseq (er (pq5 J (qb ?_))))
 rintro (_ | _) h1
 ·refine qp J (zq2 J (qp J (qn (kq4 J) (kq1 J) (ecF J (eexit (sqx ?_))))))
  first
  | exact hX _ _ (by rw [szL_end (by simp at h1;omega)];omega)
  | exact hX _ _ (by simp at *;omega)
 refine qp J (qg J (qp J (qg J (qp J (qb ?_)))))
 rintro (_ | _) h2
 ·refine qp J (qn (kq4 J) (kq1 J) (ecF J (eexit (sqx ?_))))
  first
  | exact hX _ _ (by rw [szL_end (by simp at h1;omega)];omega)
  | exact hX _ _ (by simp at *;omega)
 refine qp J (qn (kq4 J) (kq1 J) (ecT J (eskip (sqn (eseq (eblock (ereg (pq3 J ?_))))))))
 have hlt:i < a.brs.length:=by simpa using h1
 have hm1:1 ≤ m:=by simp at *;omega
 obtain ⟨b,hb⟩:=get_of_lt hlt
 refine hia (y:=.agg (ints b.vars :: bools b.co :: b.body.cs)) rfl rfl (by omega) (by simp [hb,Br.enc_eq]) rfl (qp rfl (hlda rfl rfl (lc rfl (lc rfl (lc rfl (lc rfl (lc rfl (ln rfl)))))) (qp rfl (hcall rfl rfl rfl (H b (Lmg hb) _ m hm1 hm2) ?_))))
 rintro _ _ ⟨rfl,rfl⟩
 refine qp J (qk (kq3 J) (kq1 J) (bqn (sqn (ereg (qp J (hadd J J (i64w (by omega)) (qp J (qk (kq3 J) (kq1 J) ?_))))))))
 exact left_l2 a H hs (i + 1) (by omega) _ (by omega) (by omega) (fun j k h=>hX j k (by rw [szL_drop hb,h];omega))
termination_by a.brs.length - i
decreasing_by all_goals omega
theorem left_c0 (a:Node) (hz:a.sz ≤ 2 ^ 40) (H1:∀ b ∈ a.args,LeftC b) (H2:∀ b ∈ a.brs,LeftC b.body) (s:Sg) (m:Int) (h1:1 ≤ m) (h2:m ≤ 2 ^ 40):HC p N50_ [.agg a.cs,I m] s (fun r s'=>r=[I (max (m - nAll a) 0)] ∧ s'=s):=by
 refine hcf J f50_ J ?_
 simp only [chainOf]
 refine eseq (ereg (hbox (dc (dc dn rfl) rfl) rfl (lc rfl (lc rfl (lc rfl (lc rfl (lc rfl (ln rfl)))))) (qp rfl (qk (kc rfl (kc rfl kn)) (kc rfl kn) (sqn (eseq (ereg (qp rfl (hsub rfl rfl (i64w (by omega)) (qp rfl (qk (kc rfl (kc rfl kn)) (kc rfl kn) (sqn (eseq (eseq (ereg (qp rfl (qk (kc rfl (kc rfl (kc rfl kn))) (kc rfl kn) (sqn (eblock (left_l1 a H1 (by have:=a.sz_args;omega) 0 (by omega) _ (by omega) (by omega) ?_))))))))))))))))))))
 intro j k hk
 refine bqx (sqn (eseq (eseq (ereg (qp rfl (qk (kc rfl (kc rfl (kc rfl kn))) (kc rfl kn) (sqn (eblock (left_l2 a H2 (by have:=a.sz_brs;omega) 0 (by omega) _ (by omega) (by omega) ?_)))))))))
 intro j q hq
 refine bqx (sqn (er (pq3 J (qn (kq1 J) kn (eret (fqr J ?_))))))
 have e:=nAll_eq a
 simp only [List.drop_zero] at hk hq
 refine ⟨congrArg (fun x=>[I x]) ?_,J⟩
 show (if (0:Int) > q then 0 else q)=_
 split <;> omega
theorem left_c (a:Node) (hz:a.sz ≤ 2 ^ 40):LeftC a:=by
 induction a using Node.ind with
 | h a ih1 ih2 =>
   exact left_c0 a hz (fun b hb=>ih1 b hb (by have:=Node.sz_arg hb;omega)) (fun b hb=>ih2 b hb (by have:=Node.sz_br hb;have:=b.sz_body;omega))
theorem Fits_c (s:Sg) (a:Node) (hz:a.sz ≤ 2 ^ 40) (m:Int) (h0:0 ≤ m) (hm:m < 2 ^ 40):HC p N17_ [.agg a.cs,I m] s (fun r s'=>r=[B (decide ((nAll a:Int) ≤ m))] ∧ s'=s):=by
 refine hcf J f17_ J ?_
 simp only [chainOf]
 refine er (hbox (dq2 J) J (lq5 J) (qp J (qn (kq2 J) (kq1 J) (er (hlda J J (lq5 J) (qp J (hadd J J (i64w (by omega)) (hcall J J J (left_c a hz _ _ (by omega) (by omega)) ?_))))))))
 rintro _ _ ⟨rfl,rfl⟩
 refine pq2 J (qn (kq1 J) kn (eret (fqr J ?_)))
 refine ⟨congrArg (fun x=>[B x]) ?_,J⟩
 rw [Bool.eq_iff_iff]
 simp
 omega
theorem fun_sz {l:List CFun} {i:Nat} {a:CFun} (ha:l[i]?=some a) (hz:szL CFun.sz l ≤ 2 ^ 40):a.body.sz ≤ 2 ^ 40:=by
 have h1:=szL_mem (f:=CFun.sz) (Lmg ha)
 have h2:a.body.sz ≤ a.sz:=by unfold CFun.sz;omega
 omega
theorem Few_l (l:List CFun) (m:Int) (h0:0 ≤ m) (hm:m < 2 ^ 40) (hz:szL CFun.sz l ≤ 2 ^ 40) (i:Nat) (hi:i ≤ l.length) (hs:l.length ≤ 2 ^ 40) {n:Nat} {v:Nat → Bool} {D:List (Nat × List AV)} {S:Sg} {Q:Ex → Fr → Prop}
 (hX:∀ j,((l.drop i).all fun f=>decide ((nAll f.body:Int) ≤ m))=true → Q (.exit 0) ⟨uv (uv (uv (uv (uv e0 21 (B false)) 20 (I j)) 19 (I (l.map CFun.enc).length)) 18 (.slice .none 8 (l.map CFun.enc))) 1 (I m),(fun _=>none),n,v,D,S⟩) (hR:((l.drop i).all fun f=>decide ((nAll f.body:Int) ≤ m))=false → Q .ret ⟨uv e0 4 (B false),(fun _=>none),n,v,D,S⟩):EX (callL p) (.loop F6_l1) ⟨uv (uv (uv (uv e0 20 (I i)) 19 (I (l.map CFun.enc).length)) 18 (.slice .none 8 (l.map CFun.enc))) 1 (I m),(fun _=>none),n,v,D,S⟩ Q:=by
 refine eloop (er (qp J (qb ?_)))
 rintro (_ | _) h1
 ·refine qn (kq5 J) kn (eseq (ecF J (eexit (sqx ?_))))
  exact hX _ (by rw [List.drop_eq_nil_of_le (by simp at h1 ⊢;omega)];rfl)
 refine qn (kq5 J) kn (eseq (ecT J (eskip (sqn (eseq (eblock (er ?_)))))))
 have hlt:i < l.length:=by simpa using h1
 obtain ⟨a,ha⟩:=get_of_lt hlt
 have hd:=drop_cons ha
 refine hia (y:=.agg (Str a.name :: encArgs a.params :: ints a.vars :: a.body.cs)) rfl rfl (by omega) (by simp [ha,Node.enc_eq,Br.enc_eq,CFun.enc_eq]) rfl (hlda rfl rfl (lc rfl (lc rfl (lc rfl (lc rfl (lc rfl (lc rfl (lc rfl (lc rfl (ln rfl))))))))) (hal (dc (dc (dc (dc (dc (dc (dc dn rfl) rfl) rfl) rfl) rfl) rfl) rfl) (hstl rfl rfl rfl rfl (Nlb rfl) (lc rfl (lc rfl (lc rfl (lc rfl (lc rfl (lc rfl (lc rfl (lc rfl (ln rfl))))))))) (qk (kc rfl (kc rfl (kc rfl (kc rfl (kc rfl kn))))) (kc rfl kn) (sqn (eseq (ereg (qp rfl (hlda rfl rfl (lc rfl (lc rfl (lc rfl (lc rfl (lc rfl (ln rfl)))))) (qp rfl (hcall rfl rfl rfl (Fits_c _ a.body (fun_sz ha hz) m h0 hm) ?_)))))))))))
 rintro _ _ ⟨rfl,rfl⟩
 refine qb ?_
 rintro (_ | _) h2
 ·refine qp J (qn (kq5 J) kn (ecT J (er (qp J (qn (kq1 J) kn (eret (bqr (sqr ?_))))))))
  exact hR (by rw [hd,List.all_cons,h2];rfl)
 refine qp J (qn (kq5 J) kn (ecF J (eskip (bqn (sqn (ereg (hadd J J (i64w (by omega)) (qp J (qk (kq4 J) kn ?_)))))))))
 exact Few_l l m h0 hm hz (i + 1) (by omega) hs (fun j h=>hX j (by rw [hd];simp_all)) (fun h=>hR (by rw [hd];simp_all))
termination_by l.length - i
decreasing_by all_goals omega
def fewOk (c:Core) (m:Int):Bool:=decide (c.decls.length ≤ 40) && decide (c.funs.length ≤ 40) && c.funs.all fun f=>decide ((nAll f.body:Int) ≤ m)
def Core.cs (c:Core):List AV:=[SL 3 (c.decls.map Decl.enc),SL 8 (c.funs.map CFun.enc)]
theorem CFun.sz_pos (f:CFun):1 ≤ f.sz:=by unfold CFun.sz;omega
theorem Few_c (s:Sg) (c:Core) (hz:c.sz ≤ 2 ^ 40) (m:Int) (h0:0 ≤ m) (hm:m < 2 ^ 40):HC p N6_ [.agg (Core.cs c),I m] s (fun r s'=>r=[B (fewOk c m)] ∧ s'=s):=by
 refine hcf J f6_ J ?_
 simp only [chainOf]
 refine er (hbox (dq2 J) J (lq2 J) (qp J (qn (kq2 J) (kq1 J) (eseq (er (pq4 J (qb ?_)))))))
 rintro (_ | _) h1
 refine qp J (qg J (qp J (qg J (qp J (qg J (qp J (qg J (qp J (qb ?_)))))))))
 rintro (_ | _) h2
 refine qp J (qn (kq3 J) (kq1 J) (ecF J (eskip (sqn (eseq (er (pq4 J (qn (kq4 J) kn (eblock ?_)))))))))
 refine Few_l c.funs m h0 hm (by unfold Core.sz at hz;omega) 0 (by omega) (by have:=szL_len (f:=CFun.sz) (l:=c.funs) CFun.sz_pos;unfold Core.sz at hz;omega) ?_ ?_
 intro j hk
 refine bqx (sqn (er (qp J (qn (kq1 J) kn (eret (fqr J ?_))))))
 rotate_left
 intro hk
 refine bqr (sqr (fqr J ?_))
 rotate_left
 refine qp J (qn (kq3 J) (kq1 J) (ecT J (er (qp J (qn (kq1 J) kn (eret (sqr (fqr J ?_))))))))
 rotate_left
 refine qp J (zq4 J (qp J (qn (kq3 J) (kq1 J) (ecT J (er (qp J (qn (kq1 J) kn (eret (sqr (fqr J ?_))))))))))
 rotate_left
 all_goals
  refine ⟨congrArg (fun x=>[B x]) ?_,J⟩
  simp_all [fewOk,-List.all_eq_true,-List.all_eq_false] <;> omega
end Go.Sim.Kd
namespace Go.Sim.Kd
open Go Go.Sim
def mxL {α:Type} (f:α → Nat):List α → Nat
 | []=>0
 | a :: as=>max (f a) (mxL f as)
mutual
def nNodes:Node → Nat
 | .mk op _ _ args brs=>if leafOp op then 1 else 1 + nNodess args + bNodess brs
def nNodess:List Node → Nat
 | []=>0
 | a :: as=>nNodes a + nNodess as
def bNodes:Br → Nat
 | .mk _ _ body=>nNodes body
def bNodess:List Br → Nat
 | []=>0
 | a :: as=>bNodes a + bNodess as
end
mutual
def nDepth:Node → Nat
 | .mk op _ _ args brs=>if leafOp op then 1 else max (nDepths args) (bDepths brs) + 1
def nDepths:List Node → Nat
 | []=>0
 | a :: as=>max (nDepth a) (nDepths as)
def bDepth:Br → Nat
 | .mk _ _ body=>nDepth body
def bDepths:List Br → Nat
 | []=>0
 | a :: as=>max (bDepth a) (bDepths as)
end
theorem nNodess_eq (l:List Node):nNodess l=szL nNodes l:=by induction l with
 | nil=>rfl
 | cons a l ih=>simp [nNodess,szL,ih]
theorem bNodes_eq (b:Br):bNodes b=nNodes b.body:=by cases b;rfl
theorem bNodess_eq (l:List Br):bNodess l=szL (fun b=>nNodes b.body) l:=by induction l with
 | nil=>rfl
 | cons a l ih=>simp [bNodess,szL,ih,bNodes_eq]
theorem nNodes_eq (a:Node):nNodes a=if leafOp a.op then 1 else 1 + szL nNodes a.args + szL (fun b=>nNodes b.body) a.brs:=by
 cases a
 simp only [nNodes,nNodess_eq,bNodess_eq]
 rfl
theorem nDepths_eq (l:List Node):nDepths l=mxL nDepth l:=by induction l with
 | nil=>rfl
 | cons a l ih=>simp [nDepths,mxL,ih]
theorem bDepth_eq (b:Br):bDepth b=nDepth b.body:=by cases b;rfl
theorem bDepths_eq (l:List Br):bDepths l=mxL (fun b=>nDepth b.body) l:=by induction l with
 | nil=>rfl
 | cons a l ih=>simp [bDepths,mxL,ih,bDepth_eq]
theorem nDepth_eq (a:Node):nDepth a=if leafOp a.op then 1 else max (mxL nDepth a.args) (mxL (fun b=>nDepth b.body) a.brs) + 1:=by
 cases a
 simp only [nDepth,nDepths_eq,bDepths_eq]
 rfl
theorem szL_le {α:Type} {f g:α → Nat} {l:List α} (h:∀ a ∈ l,f a ≤ g a):szL f l ≤ szL g l:=by induction l with
 | nil=>exact Nat.le_refl _
 | cons a l ih =>
   simp only [szL]
   have h1:=h a (List.mem_cons_self ..)
   have h2:=ih fun b hb=>h b (List.mem_cons_of_mem _ hb)
   omega
theorem mxL_le {α:Type} {f g:α → Nat} {l:List α} (h:∀ a ∈ l,f a ≤ g a):mxL f l ≤ szL g l:=by induction l with
 | nil=>exact Nat.le_refl _
 | cons a l ih =>
   simp only [szL,mxL]
   have h1:=h a (List.mem_cons_self ..)
   have h2:=ih fun b hb=>h b (List.mem_cons_of_mem _ hb)
   omega
theorem mxL_drop {α:Type} {f:α → Nat} {l:List α} {i:Nat} {a:α} (h:l[i]?=some a):mxL f (l.drop i)=max (f a) (mxL f (l.drop (i + 1))):=by rw [drop_cons h];rfl
theorem mxL_end {α:Type} {f:α → Nat} {l:List α} {i:Nat} (h:l.length ≤ i):mxL f (l.drop i)=0:=by rw [List.drop_eq_nil_of_le h];rfl
theorem nNodes_all (a:Node):nNodes a ≤ nAll a:=by
 induction a using Node.ind with
 | h a h1 h2 =>
   rw [nNodes_eq,nAll_eq]
   have e1:=szL_le (l:=a.args) h1
   have e2:=szL_le (l:=a.brs) (f:=fun b=>nNodes b.body) (g:=fun b=>nAll b.body) h2
   split <;> omega
theorem nDepth_all (a:Node):nDepth a ≤ nAll a:=by
 induction a using Node.ind with
 | h a h1 h2 =>
   rw [nDepth_eq,nAll_eq]
   have e1:=mxL_le (l:=a.args) h1
   have e2:=mxL_le (l:=a.brs) (f:=fun b=>nDepth b.body) (g:=fun b=>nAll b.body) h2
   split <;> omega
theorem nAll_sz (a:Node):nAll a ≤ a.sz:=by
 induction a using Node.ind with
 | h a h1 h2 =>
   rw [nAll_eq]
   have e1:=szL_le (l:=a.args) (g:=Node.sz) h1
   have e2:=szL_le (l:=a.brs) (f:=fun b=>nAll b.body) (g:=Br.sz) fun b hb=>by have:=h2 b hb;have:=b.sz_body;omega
   have e:a.sz=1 + szL Node.sz a.args + szL Br.sz a.brs:=by
    cases a with
    | mk op n ty args brs =>
      simp only [Node.sz,Node.args,Node.brs]
      have q1:∀ l,szNs l=szL Node.sz l:=fun l=>by induction l with
       | nil=>rfl
       | cons a l ih=>simp [szNs,szL,ih]
      have q2:∀ l,szBs l=szL Br.sz l:=fun l=>by induction l with
       | nil=>rfl
       | cons a l ih=>simp [szBs,szL,ih]
      rw [q1,q2]
   omega
def SizeC (b:Node):Prop:=∀ (s:Sg),HC p N33_ [.agg b.cs] s (fun r s'=>r=[I (nNodes b),I (nDepth b)] ∧ s'=s)
variable {a0:Node}
theorem Size_l1 (l:List Node) (H:∀ b ∈ l,SizeC b) (i:Nat) (hi:i ≤ l.length) (hs:l.length ≤ 2 ^ 40) {n:Nat} {v:Nat → Bool} {D:List (Nat × List AV)} {S:Sg} {Q:Ex → Fr → Prop}
 (m d:Nat) (hm:m + szL nNodes (l.drop i) ≤ 2 ^ 41)
 (hX:∀ j,Q (.exit 0) ⟨upd (uv (uv (uv (uv (uv (uv e0 19 (B false)) 18 (I j)) 17 (I (l.map Node.enc).length)) 16 (.slice .none 5 (l.map Node.enc))) 3 (I ((max d (mxL nDepth (l.drop i)):Nat):Int))) 2 (I ((m + szL nNodes (l.drop i):Nat):Int))) 1 (some (.loc 1 0)),upd ((fun _=>none)) 1 (some (a0.cs)),n,v,D,S⟩):EX (callL p) (.loop F33_l1) ⟨upd (uv (uv (uv (uv (uv e0 18 (I i)) 17 (I (l.map Node.enc).length)) 16 (.slice .none 5 (l.map Node.enc))) 3 (I d)) 2 (I m)) 1 (some (.loc 1 0)),upd ((fun _=>none)) 1 (some (a0.cs)),n,v,D,S⟩ Q:=by
 refine eloop (er (qp J (qb ?_)))
 rintro (_ | _) h1
 ·refine qn (kq7 J) (kq1 J) (eseq (ecF J (eexit (sqx ?_))))
  have h:=hX i
  rw [szL_end (by simp at h1;omega),mxL_end (by simp at h1;omega),Nat.add_zero,Nat.max_zero] at h
  exact h
 refine qn (kq7 J) (kq1 J) (eseq (ecT J (eskip (sqn (eseq (eblock (er ?_)))))))
 have hlt:i < l.length:=by simpa using h1
 obtain ⟨a,ha⟩:=get_of_lt hlt
 have hd:=drop_cons ha
 refine hia (y:=.agg a.cs) rfl rfl (by omega) (by simp [ha,Node.enc_eq,Br.enc_eq,CFun.enc_eq]) rfl (hlda rfl rfl (lc rfl (lc rfl (lc rfl (lc rfl (lc rfl (ln rfl)))))) (hal (dc (dc (dc (dc (dc (dc (dc (dc (dc dn rfl) rfl) rfl) rfl) rfl) rfl) rfl) rfl) rfl) (hstl rfl rfl rfl rfl (Nlb rfl) (lc rfl (lc rfl (lc rfl (lc rfl (lc rfl (ln rfl)))))) (qk (kc rfl (kc rfl (kc rfl (kc rfl (kc rfl (kc rfl (kc rfl kn))))))) (kc rfl (kc rfl kn)) (sqn (eseq (ereg (hlda rfl rfl (lc rfl (lc rfl (lc rfl (lc rfl (lc rfl (ln rfl)))))) (hcall rfl rfl rfl (H a (Lmg ha) _) ?_)))))))))
 rintro _ _ ⟨rfl,rfl⟩
 refine pq5 rfl (qn (kq8 rfl) (kq1 rfl) (ereg (pq2 rfl (hadd rfl rfl (i64w (by (first | omega | (rw [szL_drop ha] at hm;omega)))) (pq5 rfl (qk (kq6 rfl) (kq1 rfl) (bqn (sqn (ereg (hadd rfl rfl (i64w (by (first | omega | (rw [szL_drop ha] at hm;omega)))) (qp rfl (qk (kq6 rfl) (kq1 rfl) ?_))))))))))))
 have e1:=szL_drop (f:=nNodes) ha
 have e2:=mxL_drop (f:=nDepth) ha
 rw [e1] at hm
 rw [e1,e2] at hX
 rw [show (if (↑(nDepth a):Int) > ↑d then (↑(nDepth a):Int) else ↑d)=((max d (nDepth a):Nat):Int) from by split <;> omega]
 exact Size_l1 l H (i + 1) (by omega) hs (m + nNodes a) (max d (nDepth a)) (by omega) (fun j=>by have:=hX j;rw [Nat.add_assoc,Nat.max_assoc];exact this)
termination_by l.length - i
decreasing_by all_goals omega
theorem Size_l2 (l:List Br) (H:∀ b ∈ l,SizeC b.body) (i:Nat) (hi:i ≤ l.length) (hs:l.length ≤ 2 ^ 40) {n:Nat} {v:Nat → Bool} {D:List (Nat × List AV)} {S:Sg} {Q:Ex → Fr → Prop}
 (m d:Nat) (hm:m + szL (fun b=>nNodes b.body) (l.drop i) ≤ 2 ^ 41)
 (hX:∀ j,Q (.exit 2) ⟨uv (uv (uv (uv (uv (uv e0 38 (B false)) 37 (I j)) 36 (I (l.map Br.enc).length)) 35 (.slice .none 7 (l.map Br.enc))) 3 (I ((max d (mxL (fun b=>nDepth b.body) (l.drop i)):Nat):Int))) 2 (I ((m + szL (fun b=>nNodes b.body) (l.drop i):Nat):Int)),(fun _=>none),n,v,D,S⟩):EX (callL p) (.loop F33_l2) ⟨uv (uv (uv (uv (uv e0 37 (I i)) 36 (I (l.map Br.enc).length)) 35 (.slice .none 7 (l.map Br.enc))) 3 (I d)) 2 (I m),(fun _=>none),n,v,D,S⟩ Q:=by
 refine eloop (er (qp J (qb ?_)))
 rintro (_ | _) h1
 ·refine qn (kq6 J) kn (eseq (ecF J (eexit (sqx ?_))))
  have h:=hX i
  rw [szL_end (by simp at h1;omega),mxL_end (by simp at h1;omega),Nat.add_zero,Nat.max_zero] at h
  exact h
 refine qn (kq6 J) kn (eseq (ecT J (eskip (sqn (eseq (eblock (er ?_)))))))
 have hlt:i < l.length:=by simpa using h1
 obtain ⟨a,ha⟩:=get_of_lt hlt
 have hd:=drop_cons ha
 refine hia (y:=.agg (ints a.vars :: bools a.co :: a.body.cs)) rfl rfl (by omega) (by simp [ha,Node.enc_eq,Br.enc_eq,CFun.enc_eq]) rfl (hlda rfl rfl (lc rfl (lc rfl (lc rfl (lc rfl (lc rfl (lc rfl (lc rfl (ln rfl)))))))) (hal (dc (dc (dc (dc (dc (dc (dc (dc dn rfl) rfl) rfl) rfl) rfl) rfl) rfl) rfl) (hstl rfl rfl rfl rfl (Nlb rfl) (lc rfl (lc rfl (lc rfl (lc rfl (lc rfl (lc rfl (lc rfl (ln rfl)))))))) (qk (kc rfl (kc rfl (kc rfl (kc rfl (kc rfl (kc rfl kn)))))) (kc rfl kn) (sqn (eseq (ereg (qp rfl (hlda rfl rfl (lc rfl (lc rfl (lc rfl (lc rfl (lc rfl (ln rfl)))))) (hcall rfl rfl rfl (H a (Lmg ha) _) ?_))))))))))
 rintro _ _ ⟨rfl,rfl⟩
 refine pq5 rfl (qn (kq7 rfl) kn (ereg (pq2 rfl (hadd rfl rfl (i64w (by (first | omega | (rw [szL_drop ha] at hm;omega)))) (pq5 rfl (qk (kq5 rfl) kn (bqn (sqn (ereg (hadd rfl rfl (i64w (by (first | omega | (rw [szL_drop ha] at hm;omega)))) (qp rfl (qk (kq5 rfl) kn ?_))))))))))))
 have e1:=szL_drop (f:=(fun b=>nNodes b.body)) ha
 have e2:=mxL_drop (f:=(fun b=>nDepth b.body)) ha
 rw [e1] at hm
 rw [e1,e2] at hX
 rw [show (if (↑(nDepth a.body):Int) > ↑d then (↑(nDepth a.body):Int) else ↑d)=((max d (nDepth a.body):Nat):Int) from by split <;> omega]
 exact Size_l2 l H (i + 1) (by omega) hs (m + nNodes a.body) (max d (nDepth a.body)) (by omega) (fun j=>by have:=hX j;rw [Nat.add_assoc,Nat.max_assoc];exact this)
termination_by l.length - i
decreasing_by all_goals omega
theorem Size_c0 (a:Node) (hz:a.sz ≤ 2 ^ 40) (H1:∀ b ∈ a.args,SizeC b) (H2:∀ b ∈ a.brs,SizeC b.body) (s:Sg):HC p N33_ [.agg a.cs] s (fun r s'=>r=[I (nNodes a),I (nDepth a)] ∧ s'=s):=by
 have b1:=nNodes_all a
 have b2:=nDepth_all a
 have b3:=nAll_sz a
 have b4:=nAll_eq a
 have b5:=szL_le (l:=a.args) (f:=nNodes) (g:=nAll) fun b _=>nNodes_all b
 have b6:=szL_le (l:=a.brs) (f:=fun b=>nNodes b.body) (g:=fun b=>nAll b.body) fun b _=>nNodes_all b.body
 have b7:=mxL_le (l:=a.args) (f:=nDepth) (g:=nAll) fun b _=>nDepth_all b
 have b8:=mxL_le (l:=a.brs) (f:=fun b=>nDepth b.body) (g:=fun b=>nAll b.body) fun b _=>nDepth_all b.body
 refine hcf J f33_ J ?_
 simp only [chainOf]
 refine er (hbox (dc dn J) J (lq5 J) (pq2 J (qn (kq2 J) (kq1 J) (er (qp J (qn (kq3 J) (kq1 J) (eseq (er (pq2 J (hcall J J J (Leaf_c _ _) ?_))))))))))
 rintro _ _ ⟨rfl,rfl⟩
 refine qb ?_
 rintro (_ | _) h1
 refine qk (kc rfl (kc rfl (kc rfl (kc rfl kn)))) (kc rfl kn) (sqn (ecF rfl (eskip (sqn (eseq (eseq (ereg (qp rfl (qp rfl (qp rfl (qp rfl (qk (kc rfl (kc rfl (kc rfl (kc rfl (kc rfl (kc rfl kn)))))) (kc rfl kn) (sqn (eblock (Size_l1 a.args H1 0 (by omega) (by have:=a.sz_args;omega) 1 0 (by rw [List.drop_zero];omega) ?_)))))))))))))))
 intro j
 refine bqx (sqn (eseq (eseq (ereg (qp rfl (qp rfl (qp rfl (qp rfl (qk (kc rfl (kc rfl (kc rfl (kc rfl (kc rfl kn))))) kn (sqn (eblock (Size_l2 a.brs H2 0 (by omega) (by have:=a.sz_brs;omega) _ _ (by rw [List.drop_zero,List.drop_zero];omega) ?_))))))))))))
 intro j
 refine bqx (sqn (er (pq2 rfl (hadd rfl rfl (i64w (by simp only [List.drop_zero];omega)) (pq2 rfl (qn (kq2 rfl) kn (eret (fqr rfl ?_))))))))
 rotate_left
 refine qn (kq4 J) (kq1 J) (ecT J (er (pq2 J (qn (kq2 J) kn (eret (sqr (fqr J ?_)))))))
 rotate_left
 all_goals
  refine ⟨?_,J⟩
  rw [nNodes_eq,nDepth_eq]
  first
  | (rw [if_pos h1,if_pos h1];rfl)
  | (rw [if_neg (by rw [h1];simp),if_neg (by rw [h1];simp)];simp only [List.drop_zero,Nat.zero_max,Nat.max_zero];rfl)
theorem Size_c (a:Node) (hz:a.sz ≤ 2 ^ 40):SizeC a:=by
 induction a using Node.ind with
 | h a ih1 ih2 =>
   exact Size_c0 a hz (fun b hb=>ih1 b hb (by have:=Node.sz_arg hb;omega)) (fun b hb=>ih2 b hb (by have:=Node.sz_br hb;have:=b.sz_body;omega))
end Go.Sim.Kd
namespace Go.Sim.Kd
open Go Go.Sim
theorem Has_c (s:Sg) (ds:List Decl) (t k:Int) (hl:ds.length ≤ 2 ^ 40):HC p N122_ [SL 3 (ds.map Decl.enc),I t,I k] s (fun r s'=>r=[B (hasAt ds t k)] ∧ s'=s):=by
 refine hcf J f122_ J ?_
 simp only [chainOf]
 refine er (qp J (qn (kq3 J) kn (er (pq2 J (qb ?_)))))
 rintro (_ | _) h1
 refine qp J (zq4 J (pq2 J (zq2 J (pq2 J (zq9 J (pq2 J (qn (kq1 J) kn ?_)))))))
 refine eret (fqr J ?_)
 rotate_left
 refine qp J (qg J (qp J (qg J (qp J (qg J (qp J (qg J (qp J (qb ?_)))))))))
 rintro (_ | _) h2
 refine pq2 J (zq2 J (pq2 J (zq9 J (pq2 J (qn (kq1 J) kn (eret (fqr J ?_)))))))
 rotate_left
 refine pq2 J (qg J (qp J (qg J (qp J (qb ?_)))))
 rintro (_ | _) h3
 refine pq2 J (zq9 J (pq2 J (qn (kq1 J) kn (eret (fqr J ?_)))))
 rotate_left
 refine pq2 rfl (qg rfl (qp rfl (qg rfl (qp rfl (qg rfl (qp rfl (qg rfl (hsub rfl rfl (i64w (by simp at *;omega)) (qg rfl ?_)))))))))
 obtain ⟨d,hd1,hd2⟩:=declAt_some (ds:=ds) (t:=t) (by simp at *;omega) (by simp at *;omega)
 refine hia (y:=Decl.enc d) rfl rfl (by simp at *;omega) (by rw [Lgm,hd2];rfl) rfl ?_
 refine qg J (qp J (qg J (qp J (qg J (qp J (qg J (pq3 J (qn (kq1 J) kn (eret (fqr J ?_))))))))))
 rotate_left
 all_goals
  refine ⟨?_,J⟩
  first
  | (rw [show hasAt ds t k=_ from by unfold hasAt;rw [hd1]];simp_all [AV.ers,AV.er];done)
  | (rw [show hasAt ds t k=false from by unfold hasAt;rw [declAt_none (by simp at *;omega)]];rfl)
  | (obtain ⟨d,hd1,hd2⟩:=declAt_some (ds:=ds) (t:=t) (by simp at *;omega) (by simp at *;omega)
     rw [show hasAt ds t k=_ from by unfold hasAt;rw [hd1]];simp_all [AV.ers,AV.er] <;> omega)
def typedOk (ds:List Decl) (t:Int):Bool:=decide (0 ≤ t) && decide (t ≤ ds.length)
def headOf (ds:List Decl) (fs:List CFun) (op n ty:Int):Option (List Int × List Xtor) :=
 if op=0 ∨ op=5 then (if ty=0 ∧ numOk n=true then some ([],[]) else none)
 else if op=1 then (if ty=0 then some ([],[]) else none)
 else if op=2 ∨ op=6 then (match declAt ds ty with
  | some d=>if d.codata=decide (op=6) ∧ 0 ≤ n then (d.xtors[n.toNat]?).map fun x=>(x.args.map fun a=>sideOf a.co,[]) else none
  | none=>none)
 else if op=3 ∨ op=7 then (if typedOk ds ty=true ∧ numOk n=true then some ([2],[]) else none)
 else if op=4 ∨ op=8 then (match declAt ds ty with
  | some d=>if d.codata=decide (op=4) ∧ n=0 then some ([],d.xtors) else none
  | none=>none)
 else if op=9 then (if typedOk ds ty=true ∧ n=0 then some ([0,1],[]) else none)
 else if op=10 then (if ty=0 ∧ 0 ≤ n ∧ n ≤ 6 then some ([0,0,1],[]) else none)
 else if op=11 then (if ty=0 ∧ n=0 then some ([0,2,2],[]) else none)
 else if op=12 then (if ty=0 ∧ n=0 then some ([0,2],[]) else none)
 else if op=13 then (if ty=0 ∧ 0 ≤ n then (fs[n.toNat]?).map fun f=>(f.params.map fun a=>sideOf a.co,[]) else none)
 else if op=14 then (if ty=0 ∧ n=0 then some ([0],[]) else none)
 else none
def ArgsR (h:Option (List Int × List Xtor)) (w:List Int) (k:Int) (ok:Bool):Prop:=match h with
 | some (want,xs)=>ok=true ∧ w=want.map (· + 1) ∧ k=xs.length
 | none=>ok=false
theorem hasAt_some {ds:List Decl} {t n:Int} (h:hasAt ds t n=true):∃ d x,declAt ds t=some d ∧ ds[(t - 1).toNat]?=some d ∧ 1 ≤ t ∧ t ≤ ds.length ∧ 0 ≤ n ∧ d.xtors[n.toNat]?=some x:=by
 unfold hasAt at h
 split at h
 ·rename_i d hd
  simp only [Bae,Dte] at h
  have hb:=declAt_bounds hd
  obtain ⟨x,hx⟩:=get_of_lt (l:=d.xtors) (i:=n.toNat) (by omega)
  refine ⟨d,x,hd,?_,hb.1,hb.2,h.1,hx⟩
  rw [declAt,if_pos hb.1] at hd
  exact hd
 cases h
theorem codataAt_some {ds:List Decl} {t:Int} (h:codataAt ds t=true):∃ d,declAt ds t=some d ∧ ds[(t - 1).toNat]?=some d ∧ 1 ≤ t ∧ t ≤ ds.length ∧ d.codata=true:=by
 unfold codataAt at h
 split at h
 ·rename_i d hd
  have hb:=declAt_bounds hd
  refine ⟨d,hd,?_,hb.1,hb.2,h⟩
  rw [declAt,if_pos hb.1] at hd
  exact hd
 cases h
theorem dataAt_some {ds:List Decl} {t:Int} (h:dataAt ds t=true):∃ d,declAt ds t=some d ∧ ds[(t - 1).toNat]?=some d ∧ 1 ≤ t ∧ t ≤ ds.length ∧ d.codata=false:=by
 unfold dataAt at h
 split at h
 ·rename_i d hd
  have hb:=declAt_bounds hd
  refine ⟨d,hd,?_,hb.1,hb.2,by simpa using h⟩
  rw [declAt,if_pos hb.1] at hd
  exact hd
 cases h
section
variable {ds:List Decl} {fs:List CFun} {op n ty:Int}
theorem head_var (h:decide (op=0 ∨ op=5)=true):headOf ds fs op n ty=if ty=0 ∧ numOk n=true then some ([],[]) else none:=by
 unfold headOf;rw [if_pos (by simpa using h)]
theorem head_int (h:decide (op=1)=true):headOf ds fs op n ty=if ty=0 then some ([],[]) else none:=by
 have:op=1:=by simpa using h
 subst this;simp [headOf]
theorem head_xtor (h:decide (op=2 ∨ op=6)=true):headOf ds fs op n ty=(match declAt ds ty with
 | some d=>if d.codata=decide (op=6) ∧ 0 ≤ n then (d.xtors[n.toNat]?).map fun x=>(x.args.map fun a=>sideOf a.co,[]) else none
 | none=>none):=by
 have:op=2 ∨ op=6:=by simpa using h
 rcases this with h | h <;> subst h <;> simp [headOf]
theorem head_mu (h:decide (op=3 ∨ op=7)=true):headOf ds fs op n ty=if typedOk ds ty=true ∧ numOk n=true then some ([2],[]) else none:=by
 have:op=3 ∨ op=7:=by simpa using h
 rcases this with h | h <;> subst h <;> simp [headOf]
theorem head_match (h:decide (op=4)=true ∨ decide (op=8)=true):headOf ds fs op n ty=(match declAt ds ty with
 | some d=>if d.codata=decide (op=4) ∧ n=0 then some ([],d.xtors) else none
 | none=>none):=by
 have:op=4 ∨ op=8:=by simpa using h
 rcases this with h | h <;> subst h <;> simp [headOf]
theorem head_cut (h:decide (op=9)=true):headOf ds fs op n ty=if typedOk ds ty=true ∧ n=0 then some ([0,1],[]) else none:=by
 have:op=9:=by simpa using h
 subst this;simp [headOf]
theorem head_prim (h:decide (op=10)=true):headOf ds fs op n ty=if ty=0 ∧ 0 ≤ n ∧ n ≤ 6 then some ([0,0,1],[]) else none:=by
 have:op=10:=by simpa using h
 subst this;simp [headOf]
theorem head_ifz (h:decide (op=11)=true):headOf ds fs op n ty=if ty=0 ∧ n=0 then some ([0,2,2],[]) else none:=by
 have:op=11:=by simpa using h
 subst this;simp [headOf]
theorem head_emit (h:decide (op=12)=true):headOf ds fs op n ty=if ty=0 ∧ n=0 then some ([0,2],[]) else none:=by
 have:op=12:=by simpa using h
 subst this;simp [headOf]
theorem head_call (h:decide (op=13)=true):headOf ds fs op n ty=if ty=0 ∧ 0 ≤ n then (fs[n.toNat]?).map fun f=>(f.params.map fun a=>sideOf a.co,[]) else none:=by
 have:op=13:=by simpa using h
 subst this;simp [headOf]
theorem head_done (h:decide (op=14)=true):headOf ds fs op n ty=if ty=0 ∧ n=0 then some ([0],[]) else none:=by
 have:op=14:=by simpa using h
 subst this;simp [headOf]
theorem head_no (h0:decide (op=0 ∨ op=5)=false) (h1:decide (op=1)=false) (h2:decide (op=2 ∨ op=6)=false) (h3:decide (op=3 ∨ op=7)=false) (h4:decide (op=4)=false) (h8:decide (op=8)=false) (h9:decide (op=9)=false)
 (h10:decide (op=10)=false) (h11:decide (op=11)=false) (h12:decide (op=12)=false) (h13:decide (op=13)=false) (h14:decide (op=14)=false):headOf ds fs op n ty=none:=by
 simp only [decide_eq_false_iff_not] at *
 unfold headOf
 rw [if_neg h0,if_neg h1,if_neg h2,if_neg h3,if_neg (by omega),if_neg h9,if_neg h10,if_neg h11,if_neg h12,if_neg h13,if_neg h14]
theorem xtor_none (h:decide (op=2 ∨ op=6)=true) (hc:codataAt ds ty ≠ decide (op=6) ∨ hasAt ds ty n=false):headOf ds fs op n ty=none:=by
 rw [head_xtor h]
 unfold codataAt hasAt at hc
 cases hd:declAt ds ty with
 | none=>rfl
 | some d =>
   rw [hd] at hc
   simp only at hc ⊢
   split
   ·rename_i hh
    rcases hc with hc | hc
    ·exact absurd hh.1 hc
    rw [decide_eq_true hh.2,Bta,decide_eq_false_iff_not] at hc
    rw [List.getElem?_eq_none (by omega)]
    rfl
   rfl
theorem xtor_some {d:Decl} {x:Xtor} (h:decide (op=2 ∨ op=6)=true) (hc:codataAt ds ty=decide (op=6)) (hd:declAt ds ty=some d) (hn:0 ≤ n) (hx:d.xtors[n.toNat]?=some x):headOf ds fs op n ty=some (x.args.map (fun a=>sideOf a.co),[]):=by
 rw [head_xtor h,hd]
 unfold codataAt at hc
 rw [hd] at hc
 simp only at hc ⊢
 rw [if_pos ⟨hc,hn⟩,hx]
 rfl
theorem match_none4 (h:decide (op=4)=true) (hc:codataAt ds ty=false ∨ n ≠ 0):headOf ds fs op n ty=none:=by
 rw [head_match (.inl h)]
 unfold codataAt at hc
 cases hd:declAt ds ty with
 | none=>rfl
 | some d =>
   rw [hd] at hc
   simp only at hc ⊢
   rw [if_neg]
   rintro ⟨h1,h2⟩
   rcases hc with hc | hc
   ·rw [hc,h] at h1;cases h1
   exact hc h2
theorem match_none8 (h4:decide (op=4)=false) (h:decide (op=8)=true) (hc:dataAt ds ty=false ∨ n ≠ 0):headOf ds fs op n ty=none:=by
 rw [head_match (.inr h)]
 unfold dataAt at hc
 cases hd:declAt ds ty with
 | none=>rfl
 | some d =>
   rw [hd] at hc
   simp only at hc ⊢
   rw [if_neg]
   rintro ⟨h1,h2⟩
   rcases hc with hc | hc
   ·rw [h1,h4] at hc;cases hc
   exact hc h2
end
theorem args_c (s:Sg) (c:Core) (a:Node) (hl:c.decls.length ≤ 2 ^ 40) (xa:∀ d,c.decls[(a.ty - 1).toNat]?=some d → ∀ x,d.xtors[a.n.toNat]?=some x → x.args.length ≤ 2 ^ 40) (ga:∀ g,c.funs[a.n.toNat]?=some g → g.params.length ≤ 2 ^ 40):HC p N77_ [.agg (Core.cs c),.agg a.cs] s (fun r s'=>(∃ w k ok,r=[SL 1 (w.map I),I k,B ok] ∧ ArgsR (headOf c.decls c.funs a.op a.n a.ty) w k ok) ∧ s'=s):=by
 refine hcf J f77_ J ?_
 simp only [chainOf]
 refine er (hbox (dq2 J) J (lq2 J) (hbox (dq3 J) J (lq5 J) (pq3 J (qn (kq2 J) (kq2 J) (er (pq3 J (qn (kq3 J) (kq2 J) (eseq ?_))))))))
 refine ejoin 8 (typedOk c.decls a.ty) (k:=[2,3,7,8]) (kl:=[2,3]) (kc rfl (kc rfl (kc rfl (kc rfl kn)))) (kc rfl (kc rfl kn)) ?_ ?_
 refine ereg (pq3 J (qb ?_))
 rintro (_ | _) h1
 refine qp J (zq5 J (pq2 J (qk (kq4 J) (kq2 J) ?_)))
 exact ⟨rfl,by rw [show (typedOk c.decls a.ty)=false from by (simp_all [typedOk];try omega)]⟩
 refine qp J (qg J (qp J (qg J (qp J (qg J (qp J (qg J (qp J (qg J (qp J (qb ?_)))))))))))
 rintro (_ | _) h2
 refine pq2 J (qk (kq4 J) (kq2 J) ?_)
 exact ⟨rfl,by rw [show (typedOk c.decls a.ty)=false from by (simp_all [typedOk];try omega)]⟩
 refine pq2 J (qk (kq4 J) (kq2 J) ?_)
 exact ⟨rfl,by rw [show (typedOk c.decls a.ty)=true from by (simp_all [typedOk];try omega)]⟩
 refine sqn (eseq ?_)
 refine ejoin 9 (numOk a.n) (k:=[2,3,7,8,9]) (kl:=[2,3]) (kc rfl (kc rfl (kc rfl (kc rfl (kc rfl kn))))) (kc rfl (kc rfl kn)) ?_ ?_
 refine ereg (pq3 J (qb ?_))
 rintro (_ | _) h3
 refine qp J (zq3 J (pq2 J (qk (kq5 J) (kq2 J) ?_)))
 exact ⟨rfl,by rw [show (numOk a.n)=false from by (simp_all [numOk];try omega)]⟩
 refine qp J (qg J (qp J (qg J (qp J (qg J (pq3 J (qb ?_)))))))
 rintro (_ | _) h4
 refine qk (kq5 J) (kq2 J) ?_
 exact ⟨rfl,by rw [show (numOk a.n)=false from by (simp_all [numOk];try omega)]⟩
 refine qk (kq5 J) (kq2 J) ?_
 exact ⟨rfl,by rw [show (numOk a.n)=true from by (simp_all [numOk];try omega)]⟩
 refine sqn (eseq (er (pq2 J (qn (kq6 J) (kq2 J) (eblock (eseq ?_))))))
 refine ejoin 32 (decide (a.op=0 ∨ a.op=5)) (k:=[2,3,7,8,9,31,32]) (kl:=[2,3]) (kc rfl (kc rfl (kc rfl (kc rfl (kc rfl (kc rfl (kc rfl kn))))))) (kc rfl (kc rfl kn)) ?_ ?_
 refine er (qp J (qb ?_))
 rintro (_ | _) h5
 refine qp J (qn (kq7 J) (kq2 J) (ecF J (ereg (qp J (qb ?_)))))
 rintro (_ | _) h6
 refine qp J (qk (kq7 J) (kq2 J) ?_)
 exact ⟨rfl,by rw [show (decide (a.op=0 ∨ a.op=5))=false from by (simp_all;try omega)]⟩
 refine qp J (qk (kq7 J) (kq2 J) ?_)
 exact ⟨rfl,by rw [show (decide (a.op=0 ∨ a.op=5))=true from by (simp_all;try omega)]⟩
 refine qp J (qn (kq7 J) (kq2 J) (ecT J (eskip ?_)))
 exact ⟨rfl,by rw [show (decide (a.op=0 ∨ a.op=5))=true from by (simp_all;try omega)]⟩
 refine sqn ?_
 refine ecS J ?_ ?_
 intro h7
 refine er (pq3 J (qb ?_))
 rintro (_ | _) h8
 refine qp J (zq1 J (pq4 J (qn (kq3 J) kn (eret (bqr (sqr (fqr J ?_)))))))
 refine ⟨⟨[],0,_,J,?_⟩,J⟩
 rw [head_var ‹_›]
 split <;> simp_all [ArgsR]
 refine qp J (qg J (pq5 J (qn (kq3 J) kn (eret (bqr (sqr (fqr J ?_)))))))
 refine ⟨⟨[],0,_,J,?_⟩,J⟩
 rw [head_var ‹_›]
 split <;> simp_all [ArgsR]
 intro h7
 refine er (qp J (qb ?_))
 rintro (_ | _) h9
 refine qp J (qn (kq7 J) (kq2 J) (ecF J (eseq ?_)))
 refine ejoin 46 (decide (a.op=2 ∨ a.op=6)) (k:=[2,3,7,8,9,31,46]) (kl:=[2,3]) (kc rfl (kc rfl (kc rfl (kc rfl (kc rfl (kc rfl (kc rfl kn))))))) (kc rfl (kc rfl kn)) ?_ ?_
 refine er (qp J (qb ?_))
 rintro (_ | _) h10
 refine qp J (qn (kq7 J) (kq2 J) (ecF J (ereg (qp J (qb ?_)))))
 rintro (_ | _) h11
 refine qp J (qk (kq7 J) (kq2 J) ?_)
 exact ⟨rfl,by rw [show (decide (a.op=2 ∨ a.op=6))=false from by (simp_all;try omega)]⟩
 refine qp J (qk (kq7 J) (kq2 J) ?_)
 exact ⟨rfl,by rw [show (decide (a.op=2 ∨ a.op=6))=true from by (simp_all;try omega)]⟩
 refine qp J (qn (kq7 J) (kq2 J) (ecT J (eskip ?_)))
 exact ⟨rfl,by rw [show (decide (a.op=2 ∨ a.op=6))=true from by (simp_all;try omega)]⟩
 refine sqn ?_
 refine ecS J ?_ ?_
 intro h12
 refine eseq (er (pq3 J (hcall J J J (Codata_c _ c.decls a.ty hl) ?_)))
 rintro _ _ ⟨rfl,rfl⟩
 refine pq4 J (qb ?_)
 rintro (_ | _) h13
 refine qp J (qg J (qp J (qg J (qp J (qg J (qp J (qg J (qp J (qg J (qp J (qg J (hcall J J J (Has_c _ c.decls a.ty a.n hl) ?_))))))))))))
 rintro _ _ ⟨rfl,rfl⟩
 refine qb ?_
 rintro (_ | _) h14
 refine qg J (pq2 J (qn (kq3 J) (kq1 J) (ecT J (er (pq3 J (qn (kq3 J) kn (eret (sqr (bqr (sqr (fqr J ?_)))))))))))
 refine ⟨⟨[],0,_,J,?_⟩,J⟩
 rw [xtor_none ‹_› (by simp_all)]
 rfl
 refine qg J (pq2 J (qn (kq3 J) (kq1 J) (ecF J (eskip (sqn (er (pq3 J ?_)))))))
 obtain ⟨d,x,hd1,hd2,hd3,hd4,hd5,hd6⟩:=hasAt_some ‹_›
 refine hsub J J (i64w (by omega)) ?_
 refine hia (y:=Decl.enc d) rfl rfl (by omega) (by rw [Lgm,hd2];rfl) rfl ?_
 refine pq4 J ?_
 refine hia (y:=Xtor.enc x) rfl rfl (by omega) (by rw [Lgm,hd6];rfl) rfl ?_
 refine pq2 J (hcall J J J (kinds_c _ x.args (xa d hd2 x hd6)) ?_)
 rintro _ _ ⟨rfl,rfl⟩
 refine pq3 J (qn (kq3 J) kn (eret (bqr (sqr (fqr J ?_)))))
 refine ⟨⟨x.args.map (fun a=>sideOf a.co + 1),0,true,by simp [AV.ers,AV.er,List.map_map,Function.comp_def],?_⟩,rfl⟩
 rw [xtor_some ‹_› (by simp_all) hd1 hd5 hd6]
 exact ⟨rfl,by simp,rfl⟩
 refine qp J (zq7 J (qp J (qn (kq3 J) (kq1 J) (ecT J (er (pq3 J (qn (kq3 J) kn (eret (sqr (bqr (sqr (fqr J ?_))))))))))))
 refine ⟨⟨[],0,_,J,?_⟩,J⟩
 rw [xtor_none ‹_› (by simp_all)]
 rfl
 intro h12
 refine eseq ?_
 refine ejoin 79 (decide (a.op=3 ∨ a.op=7)) (k:=[2,3,7,8,9,31,79]) (kl:=[2,3]) (kc rfl (kc rfl (kc rfl (kc rfl (kc rfl (kc rfl (kc rfl kn))))))) (kc rfl (kc rfl kn)) ?_ ?_
 refine er (qp J (qb ?_))
 rintro (_ | _) h15
 refine qp J (qn (kq7 J) (kq2 J) (ecF J (ereg (qp J (qb ?_)))))
 rintro (_ | _) h16
 refine qp J (qk (kq7 J) (kq2 J) ?_)
 exact ⟨rfl,by rw [show (decide (a.op=3 ∨ a.op=7))=false from by (simp_all;try omega)]⟩
 refine qp J (qk (kq7 J) (kq2 J) ?_)
 exact ⟨rfl,by rw [show (decide (a.op=3 ∨ a.op=7))=true from by (simp_all;try omega)]⟩
 refine qp J (qn (kq7 J) (kq2 J) (ecT J (eskip ?_)))
 exact ⟨rfl,by rw [show (decide (a.op=3 ∨ a.op=7))=true from by (simp_all;try omega)]⟩
 refine sqn ?_
 refine ecS J ?_ ?_
 intro h17
 refine er (hbsl J J (lq1 J) (qp J (qb ?_)))
 rintro (_ | _) h18
 refine qp J (zq1 J (pq4 J (qn (kq3 J) kn (eret (bqr (sqr (fqr J ?_)))))))
 refine ⟨⟨[3],0,_,J,?_⟩,J⟩
 rw [head_mu ‹_›]
 split <;> simp_all [ArgsR]
 refine qp J (qg J (pq5 J (qn (kq3 J) kn (eret (bqr (sqr (fqr J ?_)))))))
 refine ⟨⟨[3],0,_,J,?_⟩,J⟩
 rw [head_mu ‹_›]
 split <;> simp_all [ArgsR]
 intro h17
 refine er (qp J (qb ?_))
 rintro (_ | _) h19
 refine qp J (qn (kq6 J) (kq2 J) (ecF J (er (qp J (qb ?_)))))
 rintro (_ | _) h20
 refine qp J (qn (kq6 J) (kq2 J) (ecF J (er (qp J (qb ?_)))))
 rintro (_ | _) h21
 refine qp J (qn (kq5 J) (kq2 J) (ecF J (er (qp J (qb ?_)))))
 rintro (_ | _) h22
 refine qp J (qn (kq4 J) (kq2 J) (ecF J (er (qp J (qb ?_)))))
 rintro (_ | _) h23
 refine qp J (qn (kq4 J) (kq2 J) (ecF J (er (qp J (qb ?_)))))
 rintro (_ | _) h24
 refine qp J (qn (kq4 J) (kq2 J) (ecF J (er (qp J (qb ?_)))))
 rintro (_ | _) h25
 refine qp J (qn (kq4 J) (kq2 J) (ecF J (er (qp J (qb ?_)))))
 rintro (_ | _) h26
 refine qp J (qn (kq2 J) (kq1 J) (ecF J (eskip (bqn (sqn (er (pq3 J (qn (kq3 J) kn (eret (fqr J ?_))))))))))
 rotate_left
 refine qp J (qn (kq2 J) (kq1 J) (ecT J (er (hbsl J J (lq1 J) (pq3 J (qb ?_))))))
 rintro (_ | _) h27
 refine qp J (zq3 J (pq4 J (qn (kq3 J) kn (eret (bqr (sqr (fqr J ?_)))))))
 rotate_left
 refine qp J (qg J (qp J (qg J (qp J (qg J (pq5 J (qn (kq3 J) kn (eret (bqr (sqr (fqr J ?_)))))))))))
 rotate_left
 refine qp J (qn (kq4 J) (kq2 J) (ecT J (eseq (er (pq3 J (qb ?_))))))
 rintro (_ | _) h28
 refine qp J (qg J (qp J (qg J (qp J (qg J (qp J (qg J (qp J (qg J (qp J (qg J (qp J (qb ?_)))))))))))))
 rintro (_ | _) h29
 refine qp J (qn (kq3 J) (kq2 J) (ecF J (eskip (sqn (er (pq4 J ?_))))))
 obtain ⟨g,hg⟩:=get_of_lt (l:=c.funs) (i:=a.n.toNat) (by simp at *;omega)
 refine hia (y:=.agg (Str g.name :: encArgs g.params :: ints g.vars :: g.body.cs)) rfl rfl (by simp at *;omega) (by simp [hg,CFun.enc_eq]) rfl (qp rfl (qp rfl (hcall rfl rfl rfl (kinds_c _ g.params (ga g hg)) ?_)))
 rintro _ _ ⟨rfl,rfl⟩
 refine pq6 J (qn (kq3 J) kn (eret (bqr (sqr (fqr J ?_)))))
 refine ⟨⟨g.params.map (fun a=>sideOf a.co + 1),0,decide (a.ty=0),by simp [AV.ers,AV.er,List.map_map,Function.comp_def],?_⟩,rfl⟩
 rw [head_call ‹_›]
 split <;> simp_all [ArgsR] <;> omega
 refine qp J (qn (kq3 J) (kq2 J) (ecT J (er (pq3 J (qn (kq3 J) kn (eret (sqr (bqr (sqr (fqr J ?_))))))))))
 refine ⟨⟨[],0,_,J,?_⟩,J⟩
 rw [head_call ‹_›]
 split
 rw [List.getElem?_eq_none (by simp at *;omega)];rfl
 rfl
 refine qp J (zq6 J (qp J (qn (kq3 J) (kq2 J) (ecT J (er (pq3 J (qn (kq3 J) kn (eret (sqr (bqr (sqr (fqr J ?_))))))))))))
 refine ⟨⟨[],0,_,J,?_⟩,J⟩
 rw [head_call ‹_›]
 split
 rw [List.getElem?_eq_none (by simp at *;omega)];rfl
 rfl
 refine qp J (qn (kq4 J) (kq2 J) (ecT J (er (hbsl J J (lq2 J) (pq3 J (qb ?_))))))
 rintro (_ | _) h30
 refine qp J (zq3 J (pq4 J (qn (kq3 J) kn (eret (bqr (sqr (fqr J ?_)))))))
 refine ⟨⟨[1,3],0,_,J,?_⟩,J⟩
 rw [head_emit ‹_›]
 split <;> simp_all [ArgsR]
 refine qp J (qg J (qp J (qg J (qp J (qg J (pq5 J (qn (kq3 J) kn (eret (bqr (sqr (fqr J ?_)))))))))))
 refine ⟨⟨[1,3],0,_,J,?_⟩,J⟩
 rw [head_emit ‹_›]
 split <;> simp_all [ArgsR]
 refine qp J (qn (kq4 J) (kq2 J) (ecT J (er (hbsl J J (lq3 J) (pq3 J (qb ?_))))))
 rintro (_ | _) h31
 refine qp J (zq3 J (pq4 J (qn (kq3 J) kn (eret (bqr (sqr (fqr J ?_)))))))
 refine ⟨⟨[1,3,3],0,_,J,?_⟩,J⟩
 rw [head_ifz ‹_›]
 split <;> simp_all [ArgsR]
 refine qp J (qg J (qp J (qg J (qp J (qg J (pq5 J (qn (kq3 J) kn (eret (bqr (sqr (fqr J ?_)))))))))))
 refine ⟨⟨[1,3,3],0,_,J,?_⟩,J⟩
 rw [head_ifz ‹_›]
 split <;> simp_all [ArgsR]
 refine qp J (qn (kq4 J) (kq2 J) (ecT J (er (hbsl J J (lq3 J) (pq3 J (qb ?_))))))
 rintro (_ | _) h32
 refine qp J (zq3 J (pq2 J (zq3 J (pq4 J (qn (kq3 J) kn (eret (bqr (sqr (fqr J ?_)))))))))
 refine ⟨⟨[1,1,2],0,_,J,?_⟩,J⟩
 rw [head_prim ‹_›]
 split <;> simp_all [ArgsR] <;> omega
 refine qp J (qg J (qp J (qg J (qp J (qg J (qp J (qb ?_)))))))
 rintro (_ | _) h33
 refine pq2 J (zq3 J (pq4 J (qn (kq3 J) kn (eret (bqr (sqr (fqr J ?_)))))))
 refine ⟨⟨[1,1,2],0,_,J,?_⟩,J⟩
 rw [head_prim ‹_›]
 split <;> simp_all [ArgsR] <;> omega
 refine pq2 J (qg J (qp J (qg J (qp J (qg J (pq5 J (qn (kq3 J) kn (eret (bqr (sqr (fqr J ?_)))))))))))
 refine ⟨⟨[1,1,2],0,_,J,?_⟩,J⟩
 rw [head_prim ‹_›]
 split <;> simp_all [ArgsR] <;> omega
 refine qp J (qn (kq5 J) (kq2 J) (ecT J (er (hbsl J J (lq2 J) (qp J (qb ?_))))))
 rintro (_ | _) h34
 refine qp J (zq3 J (pq4 J (qn (kq3 J) kn (eret (bqr (sqr (fqr J ?_)))))))
 refine ⟨⟨[1,2],0,_,J,?_⟩,J⟩
 rw [head_cut ‹_›]
 split <;> simp_all [ArgsR]
 refine qp J (qg J (qp J (qg J (qp J (qg J (pq5 J (qn (kq3 J) kn (eret (bqr (sqr (fqr J ?_)))))))))))
 refine ⟨⟨[1,2],0,_,J,?_⟩,J⟩
 rw [head_cut ‹_›]
 split <;> simp_all [ArgsR]
 refine qp J (qn (kq6 J) (kq2 J) (ecT J (eseq (er (pq3 J (hcall J J J (Data_c _ c.decls a.ty hl) ?_))))))
 rintro _ _ ⟨rfl,rfl⟩
 refine qb ?_
 rintro (_ | _) h35
 refine pq2 J (zq3 J (qp J (qn (kq3 J) (kq1 J) (ecT J (er (pq3 J (qn (kq3 J) kn (eret (sqr (bqr (sqr (fqr J ?_))))))))))))
 refine ⟨⟨[],0,_,J,?_⟩,J⟩
 rw [match_none8 ‹_› ‹_› (by simp_all)]
 rfl
 refine pq2 J (qg J (qp J (qg J (qp J (qg J (qp J (qb ?_)))))))
 rintro (_ | _) h36
 refine qp J (qn (kq3 J) (kq1 J) (ecF J (eskip (sqn (er (pq3 J ?_))))))
 obtain ⟨d,hd1,hd2,hd3,hd4,hd5⟩:=dataAt_some ‹_›
 refine hsub J J (i64w (by omega)) ?_
 refine hia (y:=Decl.enc d) rfl rfl (by omega) (by rw [Lgm,hd2];rfl) rfl ?_
 refine pq6 J (qn (kq3 J) kn (eret (bqr (sqr (fqr J ?_)))))
 refine ⟨⟨[],_,_,J,?_⟩,J⟩
 rw [head_match (.inr ‹_›),hd1]
 simp_all [ArgsR]
 refine qp J (qn (kq3 J) (kq1 J) (ecT J (er (pq3 J (qn (kq3 J) kn (eret (sqr (bqr (sqr (fqr J ?_))))))))))
 refine ⟨⟨[],0,_,J,?_⟩,J⟩
 rw [match_none8 ‹_› ‹_› (by simp_all)]
 rfl
 refine qp J (qn (kq6 J) (kq2 J) (ecT J (eseq (er (pq3 J (hcall J J J (Codata_c _ c.decls a.ty hl) ?_))))))
 rintro _ _ ⟨rfl,rfl⟩
 refine qb ?_
 rintro (_ | _) h37
 refine pq2 J (zq3 J (qp J (qn (kq3 J) (kq1 J) (ecT J (er (pq3 J (qn (kq3 J) kn (eret (sqr (bqr (sqr (fqr J ?_))))))))))))
 refine ⟨⟨[],0,_,J,?_⟩,J⟩
 rw [match_none4 ‹_› (by simp_all)]
 rfl
 refine pq2 J (qg J (qp J (qg J (qp J (qg J (qp J (qb ?_)))))))
 rintro (_ | _) h38
 refine qp J (qn (kq3 J) (kq1 J) (ecF J (eskip (sqn (er (pq3 J ?_))))))
 obtain ⟨d,hd1,hd2,hd3,hd4,hd5⟩:=codataAt_some ‹_›
 refine hsub J J (i64w (by omega)) ?_
 refine hia (y:=Decl.enc d) rfl rfl (by omega) (by rw [Lgm,hd2];rfl) rfl ?_
 refine pq6 J (qn (kq3 J) kn (eret (bqr (sqr (fqr J ?_)))))
 refine ⟨⟨[],_,_,J,?_⟩,J⟩
 rw [head_match (.inl ‹_›),hd1]
 simp_all [ArgsR]
 refine qp J (qn (kq3 J) (kq1 J) (ecT J (er (pq3 J (qn (kq3 J) kn (eret (sqr (bqr (sqr (fqr J ?_))))))))))
 refine ⟨⟨[],0,_,J,?_⟩,J⟩
 rw [match_none4 ‹_› (by simp_all)]
 rfl
 refine qp J (qn (kq7 J) (kq2 J) (ecT J (er (pq6 J (qn (kq3 J) kn (eret (bqr (sqr (fqr J ?_)))))))))
 refine ⟨⟨[],0,_,J,?_⟩,J⟩
 rw [head_int ‹_›]
 split <;> simp_all [ArgsR]
 all_goals
  first
  | (refine ⟨⟨[1],0,_,rfl,?_⟩,rfl⟩;rw [head_done ‹_›];split <;> simp_all [ArgsR];done)
  | (refine ⟨⟨[],0,_,rfl,?_⟩,rfl⟩;rw [head_no ‹_› ‹_› ‹_› ‹_› ‹_› ‹_› ‹_› ‹_› ‹_› ‹_› ‹_› ‹_›];rfl)
end Go.Sim.Kd
namespace Go.Sim.Kd
open Go Go.Sim
def cntM (c:Int → Option Int):Value → Option AV
 | .int .i64 n=>(c n).map I
 | _=>none
theorem cntM_set (c:Int → Option Int) (v y:Int):mset (cntM c) (.int .i64 v) (some (I y))=cntM (fun n=>if n=v then some y else c n):=by
 funext k
 unfold mset
 by_cases h:k=.int .i64 v
 ·subst h;simp [cntM]
 rw [if_neg h]
 cases k <;> try rfl
 rename_i kd n
 cases kd <;> try rfl
 have hne:n ≠ v:=fun e=>h (by rw [e])
 simp [cntM,hne]
theorem cntM_get (c:Int → Option Int) (v:Int):(cntM c (.int .i64 v)).getD (I 0)=I ((c v).getD 0):=by
 simp only [cntM]
 cases c v <;> rfl
def addK (X:Int → Int) (v k:Int):Int → Int:=fun n=>if n=v then X n + k else X n
def CM (i:Nat) (X:Int → Int) (S:Sg):Prop:=∃ c,S.ob i=some (.map (.int .i64) (cntM c)) ∧ ∀ n,(c n).getD 0=X n
structure SC (o ix ia:Nat) (X A:Int → Int) (S:Sg):Prop where
 ho:S.ob o=some (.row [.map ix,.map ia])
 hx:CM ix X S
 ha:CM ia A S
 ol:o < S.nx
 xl:ix < S.nx
 al:ia < S.nx
 ox:o ≠ ix
 oa:o ≠ ia
 xa:ix ≠ ia
theorem CM.set {i:Nat} {X:Int → Int} {S:Sg} {c:Int → Option Int} (hc:∀ n,(c n).getD 0=X n) (v k:Int):CM i (addK X v k) (S.set i (.map (.int .i64) (mset (cntM c) (.int .i64 v) (some (I ((c v).getD 0 + k)))))):=by
 refine ⟨_,by rw [set_ob,cntM_set],fun n=>?_⟩
 unfold addK
 by_cases h:n=v
 ·subst h;simp [hc]
 simp [h,hc]
theorem CM.ne {i j:Nat} {X:Int → Int} {S:Sg} {o:AObj} (h:CM i X S) (hij:i ≠ j):CM i X (S.set j o):=by
 obtain ⟨c,h1,h2⟩:=h
 exact ⟨c,by rw [set_ne hij];exact h1,h2⟩
theorem SC.setx {o ix ia:Nat} {X A:Int → Int} {S:Sg} (h:SC o ix ia X A S) {c:Int → Option Int} (hc:∀ n,(c n).getD 0=X n) (v k:Int) :
 SC o ix ia (addK X v k) A (S.set ix (.map (.int .i64) (mset (cntM c) (.int .i64 v) (some (I ((c v).getD 0 + k)))))) :=
 ⟨by rw [set_ne h.ox];exact h.ho,CM.set hc v k,h.ha.ne (Ne.symm h.xa),h.ol,h.xl,h.al,h.ox,h.oa,h.xa⟩
theorem SC.seta {o ix ia:Nat} {X A:Int → Int} {S:Sg} (h:SC o ix ia X A S) {c:Int → Option Int} (hc:∀ n,(c n).getD 0=A n) (v k:Int) :
 SC o ix ia X (addK A v k) (S.set ia (.map (.int .i64) (mset (cntM c) (.int .i64 v) (some (I ((c v).getD 0 + k)))))) :=
 ⟨by rw [set_ne h.oa];exact h.ho,h.hx.ne h.xa,CM.set hc v k,h.ol,h.xl,h.al,h.ox,h.oa,h.xa⟩
theorem SHas_c (s:Sg) (o ix ia:Nat) (X A:Int → Int) (co:Bool) (n:Int) (hS:SC o ix ia X A s):HC p N78_ [.ptr o 0,B co,I n] s (fun r s'=>r=[B (decide (0 < (if co then A n else X n)))] ∧ s'=s):=by
 obtain ⟨cx,hx1,hx2⟩:=hS.hx
 obtain ⟨ca,ha1,ha2⟩:=hS.ha
 refine hcf J f78_ J ?_
 simp only [chainOf]
 refine er (qp J (qn (kq3 J) kn (eseq (er (qp J (qb ?_))))))
 rintro (_ | _) h1
 ·refine qn (kq3 J) kn (ecF J (eskip (sqn (er (pq3 J (hldo J hS.ho J ?_))))))
  refine qp J (hlk J J J hx1 ?_)
  rw [cntM_get]
  refine pq2 J (qn (kq1 J) kn (eret (fqr J ?_)))
  refine ⟨?_,rfl⟩;simp [AV.ers,AV.er,h1,hx2,ha2]
 refine qn (kq3 J) kn (ecT J (er (pq3 J (hldo J hS.ho J ?_))))
 refine qp J (hlk J J J ha1 ?_)
 rw [cntM_get]
 refine pq2 J (qn (kq1 J) kn (eret (sqr (fqr J ?_))))
 refine ⟨?_,rfl⟩;simp [AV.ers,AV.er,h1,hx2,ha2]
theorem SAdd_c (s:Sg) (o ix ia:Nat) (X A:Int → Int) (co:Bool) (n k:Int) (hS:SC o ix ia X A s) (hb:-2 ^ 62 ≤ X n ∧ X n ≤ 2 ^ 62 ∧ -2 ^ 62 ≤ A n ∧ A n ≤ 2 ^ 62 ∧ -1 ≤ k ∧ k ≤ 1):HC p N125_ [.ptr o 0,B co,I n,I k] s (fun r s'=>r=[] ∧ SC o ix ia (if co then X else addK X n k) (if co then addK A n k else A) s' ∧ Chg (fun j=>j=ix ∨ j=ia) s s'):=by
 obtain ⟨cx,hx1,hx2⟩:=hS.hx
 obtain ⟨ca,ha1,ha2⟩:=hS.ha
 have hxn:=hx2 n
 have han:=ha2 n
 refine hcf J f125_ J ?_
 simp only [chainOf]
 refine er (qp J (qb ?_))
 rintro (_ | _) h1
 refine qn (kq4 J) kn (ecF J (ereg (pq3 J (hldo J hS.ho J ?_))))
 refine qp J (hlk J J J hx1 ?_)
 rw [cntM_get]
 refine qp J (hadd J J (i64w (by omega)) (hmu J J J J hx1 ?_))
 rotate_left
 refine qn (kq4 J) kn (ecT J (ereg (pq3 J (hldo J hS.ho J ?_))))
 refine qp J (hlk J J J ha1 ?_)
 rw [cntM_get]
 refine qp J (hadd J J (i64w (by omega)) (hmu J J J J ha1 ?_))
 rotate_left
 all_goals
  refine qk kn kn (fqn J ?_)
  subst h1
  first
  | exact ⟨rfl,hS.seta ha2 n k,(Chg.refl _).set fun _=>.inr rfl⟩
  | exact ⟨rfl,hS.setx hx2 n k,(Chg.refl _).set fun _=>.inl rfl⟩
def muX (X:Int → Int) (a:Node) (k:Int):Int → Int:=if a.op=7 then addK X a.n k else X
def muA (A:Int → Int) (a:Node) (k:Int):Int → Int:=if a.op=3 then addK A a.n k else A
def coAt (l:List Bool) (i:Nat):Bool:=(l[i]?).getD false
def addsK (w:Bool) (X:Int → Int):List Int → List Bool → Int → (Int → Int)
 | [],_,_=>X
 | v :: vs,cs,k=>addsK w (if cs.headD false=w then addK X v k else X) vs cs.tail k
theorem coAt_drop (l:List Bool) (i:Nat):(l.drop i).headD false=coAt l i:=by
 unfold coAt
 rw [List.headD_eq_head?_getD,List.head?_drop]
def Bd (X:Int → Int) (k:Int):Prop:=∀ n,-k ≤ X n ∧ X n ≤ k
theorem Bd.add {X:Int → Int} {b v k:Int} (h:Bd X b) (hk:-1 ≤ k ∧ k ≤ 1):Bd (addK X v k) (b + 1):=by
 intro n
 have:=h n
 unfold addK
 split <;> omega
theorem Bd.le {X:Int → Int} {b c:Int} (h:Bd X b) (hbc:b ≤ c):Bd X c:=fun n=>by have:=h n;omega
theorem Bd.iff {X:Int → Int} {b v k:Int} {w:Prop} [Decidable w] (h:Bd X b) (hk:-1 ≤ k ∧ k ≤ 1):Bd (if w then addK X v k else X) (b + 1):=by
 split
 ·exact h.add hk
 exact h.le (by omega)
theorem mu_c (s:Sg) (o ix ia:Nat) (X A:Int → Int) (a:Node) (k:Int) (hk:-1 ≤ k ∧ k ≤ 1) (hS:SC o ix ia X A s) (hBX:Bd X (2 ^ 61)) (hBA:Bd A (2 ^ 61)):HC p N79_ [.ptr o 0,.agg a.cs,I k] s (fun r s'=>r=[] ∧ SC o ix ia (muX X a k) (muA A a k) s' ∧ Chg (fun j=>j=ix ∨ j=ia) s s'):=by
 refine hcf J f79_ J ?_
 simp only [chainOf]
 refine er (hbox (dq3 J) J (lq5 J) (qn (kq3 J) (kq1 J) (er (pq3 J (qb ?_)))))
 rintro (_ | _) h1
 refine qp J (qg J (qp J (qg J (qp J (qg J (qp J (qb ?_)))))))
 rintro (_ | _) h2
 refine qp J (qn (kq4 J) (kq1 J) (ecF J (eskip (fqn J ?_))))
 rotate_left
 refine qp rfl (qk (kc rfl (kc rfl (kc rfl (kc rfl kn)))) (kc rfl kn) (sqn (ecT rfl (ereg (qp rfl (qp rfl (qp rfl (qp rfl (qp rfl (qp rfl (qp rfl (hcall rfl rfl rfl (SAdd_c _ o ix ia X A (decide (a.op=3)) (a.n) (k) hS (by have h1:=hBX (a.n);have h2:=hBA (a.n);omega)) ?_))))))))))))
 rintro _ s1 ⟨rfl,hS1,hc1⟩
 refine qk kn kn (fqn J ?_)
 rotate_left
 refine qp rfl (qs rfl rfl (by decide) (qs rfl rfl (by decide) (qs rfl rfl (by decide) (qp rfl (qk (kc rfl (kc rfl (kc rfl (kc rfl kn)))) (kc rfl kn) (sqn (ecT rfl (ereg (qp rfl (qp rfl (qp rfl (qp rfl (qp rfl (qp rfl (qp rfl (hcall rfl rfl rfl (SAdd_c _ o ix ia X A (decide (a.op=3)) (a.n) (k) hS (by have h1:=hBX (a.n);have h2:=hBA (a.n);omega)) ?_))))))))))))))))
 rintro _ s1 ⟨rfl,hS1,hc1⟩
 refine qk kn kn (fqn J ?_)
 rotate_left
 all_goals
  first
  | (have e1:muX X a k=X:=by unfold muX;rw [if_neg (by simp at *;omega)]
     have e2:muA A a k=A:=by unfold muA;rw [if_neg (by simp at *;omega)]
     rw [e1,e2];exact ⟨rfl,hS,Chg.refl _⟩)
  | (have e1:muX X a k=X:=by unfold muX;rw [if_neg (by simp at *;omega)]
     have e2:muA A a k=addK A a.n k:=by unfold muA;rw [if_pos (by simp at *;omega)]
     have e3:a.op=3:=by simp at *;omega
     rw [if_pos (by simpa using e3),if_pos (by simpa using e3)] at hS1
     rw [e1,e2];exact ⟨rfl,hS1,hc1⟩)
  | (have e1:muX X a k=addK X a.n k:=by unfold muX;rw [if_pos (by simp at *;omega)]
     have e2:muA A a k=A:=by unfold muA;rw [if_neg (by simp at *;omega)]
     have e3:¬ a.op=3:=by simp at *;omega
     rw [if_neg (by simpa using e3),if_neg (by simpa using e3)] at hS1
     rw [e1,e2];exact ⟨rfl,hS1,hc1⟩)
theorem Co_c (s:Sg) (b:Br) (i:Nat) (hl:b.co.length ≤ 2 ^ 40):HC p N126_ [.agg (ints b.vars :: bools b.co :: b.body.cs),I i] s (fun r s'=>r=[B (coAt b.co i)] ∧ s'=s):=by
 refine hcf J f126_ J ?_
 simp only [chainOf]
 refine er (hbox (dq2 J) J (lq7 J) (qp J (qn (kq2 J) (kq1 J) (er (pq5 J (qb ?_))))))
 rintro (_ | _) h1
 ·refine qp J (zq5 J (pq2 J (qn (kq1 J) kn (eret (fqr J ?_)))))
  refine ⟨?_,J⟩
  unfold coAt
  first
  | (rw [hx];rfl)
  | (rw [List.getElem?_eq_none (by simp at h1;omega)];rfl)
 refine qp J (qg J (qp J (qg J (qp J (qg J (qp J (qg J ?_)))))))
 have hlt:i < b.co.length:=by simpa using h1
 obtain ⟨x,hx⟩:=get_of_lt hlt
 refine hia (y:=B x) rfl rfl (by omega) (by simp [hx]) rfl (qg rfl (qp rfl (qp rfl (qp rfl (qk (kc rfl kn) kn (sqn (eret (fqr rfl ?_))))))))
 refine ⟨?_,J⟩
 unfold coAt
 first
 | (rw [hx];rfl)
 | (rw [List.getElem?_eq_none (by simp at h1;omega)];rfl)
theorem branch_l {o ix ia:Nat} (b:Br) (k:Int) (hk:-1 ≤ k ∧ k ≤ 1) (hco:b.co.length ≤ 2 ^ 40) (X A:Int → Int) (i:Nat) (hi:i ≤ b.vars.length) (hs:b.vars.length ≤ 2 ^ 40) {n:Nat} {v:Nat → Bool} {D:List (Nat × List AV)} {S:Sg} {Q:Ex → Fr → Prop}
 (hS:SC o ix ia X A S) (hBX:Bd X (2 ^ 50 + i)) (hBA:Bd A (2 ^ 50 + i))
 (hX:∀ j S',SC o ix ia (addsK false X (b.vars.drop i) (b.co.drop i) k) (addsK true A (b.vars.drop i) (b.co.drop i) k) S' → Chg (fun j=>j=ix ∨ j=ia) S S' → Q (.exit 0) ⟨uv (uv (upd (uv (uv (uv (uv e0 12 (B false)) 11 (I j)) 10 (I (b.vars.map I).length)) 9 (.slice .none 1 (b.vars.map I))) 4 (some (.loc 4 0))) 2 (I k)) 0 (.ptr o 0),upd ((fun _=>none)) 4 (some ((ints b.vars :: bools b.co :: b.body.cs))),n,v,D,S'⟩):EX (callL p) (.loop F82_l1) ⟨uv (uv (upd (uv (uv (uv e0 11 (I i)) 10 (I (b.vars.map I).length)) 9 (.slice .none 1 (b.vars.map I))) 4 (some (.loc 4 0))) 2 (I k)) 0 (.ptr o 0),upd ((fun _=>none)) 4 (some ((ints b.vars :: bools b.co :: b.body.cs))),n,v,D,S⟩ Q:=by
 refine eloop (er (qp J (qb ?_)))
 rintro (_ | _) h1
 ·refine qn (kq7 J) (kq1 J) (eseq (ecF J (eexit (sqx ?_))))
  exact hX _ _ (by rw [List.drop_eq_nil_of_le (by simp at h1 ⊢;omega)];exact hS) (Chg.refl _)
 refine qn (kq7 J) (kq1 J) (eseq (ecT J (eskip (sqn (eseq (eblock (er (qp J ?_))))))))
 have hlt:i < b.vars.length:=by simpa using h1
 obtain ⟨a,ha⟩:=get_of_lt hlt
 have hd:=drop_cons ha
 refine hia (y:=I a) rfl rfl (by omega) (by simp [ha]) rfl (qp rfl (qp rfl (qp rfl (qk (kc rfl (kc rfl (kc rfl (kc rfl (kc rfl (kc rfl (kc rfl (kc rfl kn)))))))) (kc rfl kn) (sqn (ereg (qp rfl (hlda rfl rfl (lc rfl (lc rfl (lc rfl (lc rfl (lc rfl (lc rfl (lc rfl (ln rfl)))))))) (qp rfl (hcall rfl rfl rfl (Co_c _ b i hco) ?_))))))))))
 rintro _ _ ⟨rfl,rfl⟩
 refine qp rfl (qp rfl (hcall rfl rfl rfl (SAdd_c _ o ix ia X A (coAt b.co i) (a) (k) hS (by have h1:=hBX (a);have h2:=hBA (a);omega)) ?_))
 rintro _ s1 ⟨rfl,hS1,hc1⟩
 refine qk (kq6 J) (kq1 J) (bqn (sqn (ereg (hadd J J (i64w (by omega)) (qp J (qk (kq6 J) (kq1 J) ?_))))))
 have e:∀ w (Y:Int → Int),addsK w Y (b.vars.drop i) (b.co.drop i) k=addsK w (if coAt b.co i=w then addK Y a k else Y) (b.vars.drop (i + 1)) (b.co.drop (i + 1)) k:=by
  intro w Y
  rw [hd]
  simp only [addsK,coAt_drop,List.tail_drop]
 have t1:(if coAt b.co i=true then X else addK X a k)=(if coAt b.co i=false then addK X a k else X):=by cases coAt b.co i <;> rfl
 rw [t1] at hS1
 exact branch_l b k hk hco _ _ (i + 1) (by omega) hs hS1 ((hBX.iff hk).le (by omega)) ((hBA.iff hk).le (by omega)) (fun j S' h c=>hX j S' (by rw [e,e];exact h) (hc1.trans c))
termination_by b.vars.length - i
decreasing_by all_goals omega
theorem branch_c (s:Sg) (o ix ia:Nat) (X A:Int → Int) (b:Br) (hz:b.sz ≤ 2 ^ 40) (k:Int) (hk:-1 ≤ k ∧ k ≤ 1) (hS:SC o ix ia X A s) (hBX:Bd X (2 ^ 50)) (hBA:Bd A (2 ^ 50)):HC p N82_ [.ptr o 0,.agg (ints b.vars :: bools b.co :: b.body.cs),I k] s (fun r s'=>r=[] ∧ SC o ix ia (addsK false X b.vars b.co k) (addsK true A b.vars b.co k) s' ∧ Chg (fun j=>j=ix ∨ j=ia) s s'):=by
 refine hcf J f82_ J ?_
 simp only [chainOf]
 refine eseq (ereg (hbox (dc (dc (dc dn rfl) rfl) rfl) rfl (lc rfl (lc rfl (lc rfl (lc rfl (lc rfl (lc rfl (lc rfl (ln rfl)))))))) (qk (kc rfl (kc rfl (kc rfl kn))) (kc rfl kn) (sqn (eseq (ereg (qp rfl (qp rfl (qp rfl (qp rfl (qk (kc rfl (kc rfl (kc rfl (kc rfl (kc rfl (kc rfl kn)))))) (kc rfl kn) (sqn (eblock (branch_l b k hk (by have:=b.sz_co;omega) X A 0 (by omega) (by have:=b.sz_vars;omega) hS (hBX.le (by omega)) (hBA.le (by omega)) ?_))))))))))))))
 intro j S' hS' hc
 refine bqx (fqn J ?_)
 exact ⟨rfl,hS',hc⟩
end Go.Sim.Kd
namespace Go.Sim.Kd
open Go Go.Sim
theorem SameBools_l (lb la:List Bool) (hl:la.length=lb.length) (i:Nat) (hi:i ≤ la.length) (hs:la.length ≤ 2 ^ 40) {n:Nat} {v:Nat → Bool} {D:List (Nat × List AV)} {S:Sg} {Q:Ex → Fr → Prop}
 (hX:∀ j,la.drop i=lb.drop i → Q (.exit 0) ⟨uv (uv (uv (uv (uv e0 14 (B false)) 13 (I j)) 12 (I (la.map B).length)) 1 (SL 1 (lb.map B))) 0 (.slice .none 1 (la.map B)),(fun _=>none),n,v,D,S⟩) (hR:la.drop i ≠ lb.drop i → Q .ret ⟨uv e0 4 (B false),(fun _=>none),n,v,D,S⟩):EX (callL p) (.loop F81_l1) ⟨uv (uv (uv (uv e0 13 (I i)) 12 (I (la.map B).length)) 1 (SL 1 (lb.map B))) 0 (.slice .none 1 (la.map B)),(fun _=>none),n,v,D,S⟩ Q:=by
 refine eloop (er (qp J (qb ?_)))
 rintro (_ | _) h1
 ·refine qn (kq5 J) kn (eseq (ecF J (eexit (sqx ?_))))
  exact hX _ (by rw [List.drop_eq_nil_of_le (by simp at h1 ⊢;omega),List.drop_eq_nil_of_le (by simp at h1 ⊢;omega)])
 refine qn (kq5 J) kn (eseq (ecT J (eskip (sqn (eseq (eblock (er (pq2 J (qn (kq5 J) kn (er (pq2 J ?_)))))))))))
 have hlt:i < la.length:=by simpa using h1
 obtain ⟨a,ha⟩:=get_of_lt hlt
 have hd:=drop_cons ha
 refine hia (y:=B a) rfl rfl (by omega) (by simp [ha]) rfl (qp rfl (qp rfl (qp rfl ?_)))
 obtain ⟨y,hy⟩:=get_of_lt (l:=lb) (i:=i) (by omega)
 have hd2:=drop_cons hy
 refine hia (y:=B y) rfl rfl (by omega) (by simp [hy]) rfl (qp rfl (qp rfl (qb ?_)))
 rintro (_ | _) h2
 ·refine qn (kq5 J) kn (ecF J (eskip (bqn (sqn (ereg (hadd J J (i64w (by omega)) (qp J (qk (kq4 J) kn ?_))))))))
  exact SameBools_l lb la hl (i + 1) (by omega) hs (fun j h=>hX j (by rw [hd,hd2,h,show a=y from by simpa using h2])) (fun h=>hR (by rw [hd,hd2];intro e;exact h (List.cons.inj e).2))
 refine qn (kq5 J) kn (ecT J (er (qp J (qn (kq1 J) kn (eret (bqr (sqr ?_)))))))
 exact hR (by rw [hd,hd2];intro e;have e1:=(List.cons.inj e).1;revert h2;simp [e1])
termination_by la.length - i
decreasing_by all_goals omega
theorem SameBools_c (s:Sg) (a b:List Bool) (hz:a.length ≤ 2 ^ 40):HC p N81_ [SL 1 (a.map B),SL 1 (b.map B)] s (fun r s'=>r=[B (decide (a=b))] ∧ s'=s):=by
 refine hcf J f81_ J ?_
 simp only [chainOf]
 refine er (qp J (qn (kq2 J) kn (eseq (er (pq5 J (qb ?_))))))
 rintro (_ | _) h1
 refine qn (kq3 J) kn (ecF J (eskip (sqn (eseq (er (pq3 J (qn (kq4 J) kn (eblock ?_))))))))
 refine SameBools_l b a (by simp at h1;omega) 0 (by omega) hz ?_ ?_
 intro j hj
 refine bqx (sqn (er (qp J (qn (kq1 J) kn (eret (fqr J ?_))))))
 rotate_left
 intro hj
 refine bqr (sqr (fqr J ?_))
 rotate_left
 refine qn (kq3 J) kn (ecT J (er (qp J (qn (kq1 J) kn (eret (sqr (fqr J ?_)))))))
 rotate_left
 all_goals
  refine ⟨?_,J⟩
  first
  | (rw [decide_eq_true (show a=b from hj)];rfl)
  | (rw [decide_eq_false (show ¬ a=b from hj)];rfl)
  | (rw [decide_eq_false (show ¬ a=b from by intro e;subst e;simp at h1)];rfl)
theorem SameInts_l (lb la:List Int) (hl:la.length=lb.length) (i:Nat) (hi:i ≤ la.length) (hs:la.length ≤ 2 ^ 40) {n:Nat} {v:Nat → Bool} {D:List (Nat × List AV)} {S:Sg} {Q:Ex → Fr → Prop}
 (hX:∀ j,la.drop i=lb.drop i → Q (.exit 0) ⟨uv (uv (uv (uv (uv e0 14 (B false)) 13 (I j)) 12 (I (la.map I).length)) 1 (SL 1 (lb.map I))) 0 (.slice .none 1 (la.map I)),(fun _=>none),n,v,D,S⟩) (hR:la.drop i ≠ lb.drop i → Q .ret ⟨uv e0 4 (B false),(fun _=>none),n,v,D,S⟩):EX (callL p) (.loop F40_l1) ⟨uv (uv (uv (uv e0 13 (I i)) 12 (I (la.map I).length)) 1 (SL 1 (lb.map I))) 0 (.slice .none 1 (la.map I)),(fun _=>none),n,v,D,S⟩ Q:=by
 refine eloop (er (qp J (qb ?_)))
 rintro (_ | _) h1
 ·refine qn (kq5 J) kn (eseq (ecF J (eexit (sqx ?_))))
  exact hX _ (by rw [List.drop_eq_nil_of_le (by simp at h1 ⊢;omega),List.drop_eq_nil_of_le (by simp at h1 ⊢;omega)])
 refine qn (kq5 J) kn (eseq (ecT J (eskip (sqn (eseq (eblock (er (pq2 J (qn (kq5 J) kn (er (pq2 J ?_)))))))))))
 have hlt:i < la.length:=by simpa using h1
 obtain ⟨a,ha⟩:=get_of_lt hlt
 have hd:=drop_cons ha
 refine hia (y:=I a) rfl rfl (by omega) (by simp [ha]) rfl (qp rfl (qp rfl (qp rfl ?_)))
 obtain ⟨y,hy⟩:=get_of_lt (l:=lb) (i:=i) (by omega)
 have hd2:=drop_cons hy
 refine hia (y:=I y) rfl rfl (by omega) (by simp [hy]) rfl (qp rfl (qp rfl (qb ?_)))
 rintro (_ | _) h2
 ·refine qn (kq5 J) kn (ecF J (eskip (bqn (sqn (ereg (hadd J J (i64w (by omega)) (qp J (qk (kq4 J) kn ?_))))))))
  exact SameInts_l lb la hl (i + 1) (by omega) hs (fun j h=>hX j (by rw [hd,hd2,h,show a=y from by simpa using h2])) (fun h=>hR (by rw [hd,hd2];intro e;exact h (List.cons.inj e).2))
 refine qn (kq5 J) kn (ecT J (er (qp J (qn (kq1 J) kn (eret (bqr (sqr ?_)))))))
 exact hR (by rw [hd,hd2];intro e;have e1:=(List.cons.inj e).1;revert h2;simp [e1])
termination_by la.length - i
decreasing_by all_goals omega
theorem SameInts_c (s:Sg) (a b:List Int) (hz:a.length ≤ 2 ^ 40):HC p N40_ [SL 1 (a.map I),SL 1 (b.map I)] s (fun r s'=>r=[B (decide (a=b))] ∧ s'=s):=by
 refine hcf J f40_ J ?_
 simp only [chainOf]
 refine er (qp J (qn (kq2 J) kn (eseq (er (pq5 J (qb ?_))))))
 rintro (_ | _) h1
 refine qn (kq3 J) kn (ecF J (eskip (sqn (eseq (er (pq3 J (qn (kq4 J) kn (eblock ?_))))))))
 refine SameInts_l b a (by simp at h1;omega) 0 (by omega) hz ?_ ?_
 intro j hj
 refine bqx (sqn (er (qp J (qn (kq1 J) kn (eret (fqr J ?_))))))
 rotate_left
 intro hj
 refine bqr (sqr (fqr J ?_))
 rotate_left
 refine qn (kq3 J) kn (ecT J (er (qp J (qn (kq1 J) kn (eret (sqr (fqr J ?_)))))))
 rotate_left
 all_goals
  refine ⟨?_,J⟩
  first
  | (rw [decide_eq_true (show a=b from hj)];rfl)
  | (rw [decide_eq_false (show ¬ a=b from hj)];rfl)
  | (rw [decide_eq_false (show ¬ a=b from by intro e;subst e;simp at h1)];rfl)
def distinctOk:List (Int × Bool) → List (Int × Bool) → Bool
 | _,[]=>true
 | seen,p :: ps=>numOk p.1 && !(seen.any fun q=>decide (q=p)) && distinctOk (seen ++ [p]) ps
theorem zip_at {vars:List Int} {cos:List Bool} {i:Nat} {x:Int} {c:Bool} (h:vars[i]?=some x) (k:cos[i]?=some c):(vars.zip cos)[i]?=some (x,c):=by simp [List.getElem?_zip_eq_some,h,k]
theorem dist_l2 (vars:List Int) (cos:List Bool) (i:Nat) (pr:Int × Bool) (hi:i < vars.length) (hl:vars.length ≤ cos.length) (hs:vars.length ≤ 2 ^ 40) (hc:cos[i]?=some pr.2) (j:Nat) (hj:j ≤ i) {x8 x9 x10:AV} {n:Nat} {v:Nat → Bool} {D:List (Nat × List AV)} {S:Sg} {Q:Ex → Fr → Prop}
 (hX:∀ q,(((vars.zip cos).take i).drop j).any (fun q=>decide (q=pr))=false → Q (.exit 2) ⟨uv (uv (uv (uv (uv (uv (uv (uv (uv (uv e0 26 (B false)) 25 (I q)) 24 (I ((vars.take i).map I).length)) 10 (x10)) 9 (x9)) 8 (x8)) 6 (I pr.1)) 5 (I i)) 1 (bools cos)) 0 (ints vars),(fun _=>none),n,v,D,S⟩) (hR:(((vars.zip cos).take i).drop j).any (fun q=>decide (q=pr))=true → Q .ret ⟨uv e0 4 (B false),(fun _=>none),n,v,D,S⟩):EX (callL p) (.loop F74_l2) ⟨uv (uv (uv (uv (uv (uv (uv (uv (uv e0 25 (I j)) 24 (I ((vars.take i).map I).length)) 10 (x10)) 9 (x9)) 8 (x8)) 6 (I pr.1)) 5 (I i)) 1 (bools cos)) 0 (ints vars),(fun _=>none),n,v,D,S⟩ Q:=by
 refine eloop (er (qp J (qb ?_)))
 rintro (_ | _) h1
 refine qn (kq10 J) kn (eseq (ecF J (eexit (sqx ?_))))
 exact hX _ (by rw [List.drop_eq_nil_of_le (by simp at h1 ⊢;omega)];rfl)
 refine qn (kq10 J) kn (eseq (ecT J (eskip (sqn (eseq (eblock (er (pq2 J (qn (kq10 J) kn (er (pq2 J ?_)))))))))))
 have hlt:j < i:=by simp at h1;omega
 obtain ⟨w,hw⟩:=get_of_lt (l:=vars) (i:=j) (by omega)
 obtain ⟨cw,hcw⟩:=get_of_lt (l:=cos) (i:=j) (by omega)
 have hd:=drop_cons (l:=(vars.zip cos).take i) (i:=j) (x:=(w,cw)) (by rw [List.getElem?_take,if_pos hlt];exact zip_at hw hcw)
 refine hia (y:=I w) rfl rfl (by omega) (by simp [hw]) rfl (qp rfl (qp rfl (qp rfl (qb ?_))))
 rintro (_ | _) h2
 refine qp J (zq9 J (qp J (qn (kq10 J) kn (ecF J (eskip (bqn (sqn (ereg (hadd J J (i64w (by omega)) (qp J (qk (kq9 J) kn ?_)))))))))))
 rotate_left
 refine qp rfl (qg rfl (qp rfl (qg rfl (qp rfl (qg rfl (hia (y:=B cw) rfl rfl (by omega) (by simp [hcw]) rfl (qg rfl (qp rfl (qg rfl (qp rfl (qg rfl (qp rfl (qg rfl (hia (y:=B pr.2) rfl rfl (by omega) (by simp [hc]) rfl (qg rfl (qp rfl (qg rfl (qp rfl (qb ?_)))))))))))))))))))
 rintro (_ | _) h3
 refine qp J (qn (kq10 J) kn (ecF J (eskip (bqn (sqn (ereg (hadd J J (i64w (by omega)) (qp J (qk (kq9 J) kn ?_)))))))))
 rotate_left
 refine qp J (qn (kq10 J) kn (ecT J (er (qp J (qn (kq1 J) kn (eret (bqr (sqr ?_))))))))
 have he:(w,cw)=pr:=by
  clear hX hR
  apply Prod.ext <;> simp_all
 exact hR (by rw [hd,List.any_cons,decide_eq_true he];rfl)
 all_goals
  have hne:¬ (w,cw)=pr:=by
   clear hX hR
   intro e
   subst e
   simp_all
  exact dist_l2 vars cos i pr hi hl hs hc (j + 1) (by omega) (fun q h=>hX q (by rw [hd,List.any_cons,h,decide_eq_false hne];rfl)) (fun h=>hR (by rw [hd,List.any_cons,h];simp))
termination_by i - j
decreasing_by all_goals omega
theorem dist_l1 (vars:List Int) (cos:List Bool) (hl:vars.length ≤ cos.length) (i:Nat) (hi:i ≤ vars.length) (hs:vars.length ≤ 2 ^ 40) {n:Nat} {v:Nat → Bool} {D:List (Nat × List AV)} {S:Sg} {Q:Ex → Fr → Prop}
 (hX:∀ j,distinctOk ((vars.zip cos).take i) ((vars.zip cos).drop i)=true → Q (.exit 0) ⟨uv (uv (uv (uv (uv (uv e0 11 (B false)) 10 (I j)) 9 (I (vars.map I).length)) 8 (.slice .none 1 (vars.map I))) 1 (bools cos)) 0 (ints vars),(fun _=>none),n,v,D,S⟩) (hR:distinctOk ((vars.zip cos).take i) ((vars.zip cos).drop i)=false → Q .ret ⟨uv e0 4 (B false),(fun _=>none),n,v,D,S⟩):EX (callL p) (.loop F74_l1) ⟨uv (uv (uv (uv (uv e0 10 (I i)) 9 (I (vars.map I).length)) 8 (.slice .none 1 (vars.map I))) 1 (bools cos)) 0 (ints vars),(fun _=>none),n,v,D,S⟩ Q:=by
 refine eloop (er (qp J (qb ?_)))
 rintro (_ | _) h1
 refine qn (kq6 J) kn (eseq (ecF J (eexit (sqx ?_))))
 exact hX _ (by rw [List.drop_eq_nil_of_le (by simp at h1 ⊢;omega)];rfl)
 refine qn (kq6 J) kn (eseq (ecT J (eskip (sqn (eseq (eblock (er (qp J ?_))))))))
 have hlt:i < vars.length:=by simpa using h1
 obtain ⟨a,ha⟩:=get_of_lt hlt
 have hd:=drop_cons ha
 refine hia (y:=I a) rfl rfl (by omega) (by simp [ha]) rfl (qp rfl (qp rfl (qp rfl (qk (kc rfl (kc rfl (kc rfl (kc rfl (kc rfl (kc rfl (kc rfl kn))))))) kn (sqn (eseq (eseq (ereg ?_))))))))
 obtain ⟨c,hc⟩:=get_of_lt (l:=cos) (i:=i) (by omega)
 have hz:=drop_cons (zip_at ha hc)
 refine pq2 J (qb ?_)
 rintro (_ | _) h2
 refine qp J (qg J (qp J (qg J (qp J (qb ?_)))))
 rintro (_ | _) h3
 refine qp rfl (qk (kc rfl (kc rfl (kc rfl (kc rfl (kc rfl (kc rfl (kc rfl (kc rfl kn)))))))) kn (sqn (ecF rfl (eskip (sqn (eseq (ereg (qp rfl (qp rfl (hsl (a:=0) (b:=i) rfl rfl rfl (by simp;omega) (r:=(vars.take i).map I) (by simp) ?_))))))))))
 refine pq2 J (qn (kq9 J) kn (eblock ?_))
 refine dist_l2 vars cos i (a,c) hlt hl hs hc 0 (by omega) ?_ ?_
 intro q hn
 refine bqx (bqn (sqn (ereg (hadd J J (i64w (by omega)) (qp J (qk (kq5 J) kn ?_))))))
 have ht:(vars.zip cos).take (i + 1)=(vars.zip cos).take i ++ [(a,c)]:=by simp [List.take_add_one,zip_at ha hc]
 have hy:distinctOk ((vars.zip cos).take i) ((vars.zip cos).drop i)=distinctOk ((vars.zip cos).take (i + 1)) ((vars.zip cos).drop (i + 1)):=by
  rw [hz,ht]
  clear hX hR
  have hnum:numOk a=true:=by simp_all [numOk]
  have hn':(((vars.zip cos).take i).any fun q=>decide (q=(a,c)))=false:=by simpa only [List.drop_zero] using hn
  simp only [distinctOk,hnum,hn',Bta,Bool.not_false]
 exact dist_l1 vars cos hl (i + 1) (by omega) hs (fun j h=>hX j (by rw [hy];exact h)) (fun h=>hR (by rw [hy];exact h))
 intro hn
 refine bqr (bqr (sqr ?_))
 rotate_left
 refine qp J (qn (kq8 J) kn (ecT J (er (qp J (qn (kq1 J) kn (eret (sqr (bqr (sqr ?_)))))))))
 rotate_left
 refine qp J (zq2 J (qp J (qn (kq8 J) kn (ecT J (er (qp J (qn (kq1 J) kn (eret (sqr (bqr (sqr ?_)))))))))))
 rotate_left
 all_goals
  first
  | (have hnum:numOk a=false:=by
      clear hX hR
      simp_all [numOk] <;> omega
     exact hR (by rw [hz];simp only [distinctOk,hnum,Bfa]))
  | (have hn':(((vars.zip cos).take i).any fun q=>decide (q=(a,c)))=true:=by simpa only [List.drop_zero] using hn
     exact hR (by rw [hz];simp only [distinctOk,hn',Bool.not_true,Bool.and_false,Bfa]))
termination_by vars.length - i
decreasing_by all_goals omega
theorem distinct_c (s:Sg) (vars:List Int) (cos:List Bool) (hl:vars.length ≤ cos.length) (hz:vars.length ≤ 2 ^ 40):HC p N74_ [ints vars,bools cos] s (fun r s'=>r=[B (distinctOk [] (vars.zip cos))] ∧ s'=s):=by
 refine hcf J f74_ J ?_
 simp only [chainOf]
 refine er (qp J (qn (kq2 J) kn (eseq (er (pq3 J (qn (kq5 J) kn (eblock ?_)))))))
 refine dist_l1 vars cos hl 0 (by omega) hz ?_ ?_
 ·intro j hj
  refine bqx (sqn (er (qp J (qn (kq1 J) kn (eret (fqr J ?_))))))
  refine ⟨?_,J⟩
  first
  | (rw [show distinctOk [] (vars.zip cos)=true from hj];rfl)
  | (rw [show distinctOk [] (vars.zip cos)=false from hj];rfl)
 intro hj
 refine bqr (sqr (fqr J ?_))
 refine ⟨?_,J⟩
 first
 | (rw [show distinctOk [] (vars.zip cos)=true from hj];rfl)
 | (rw [show distinctOk [] (vars.zip cos)=false from hj];rfl)
end Go.Sim.Kd
namespace Go.Sim.Kd
open Go Go.Sim
def addV (X:Int → Bool) (v:Int):Int → Bool:=fun n=>decide (n=v) || X n
def addsV (w:Bool) (X:Int → Bool):List Int → List Bool → (Int → Bool)
 | [],_=>X
 | v :: vs,cs=>addsV w (if cs.headD false=w then addV X v else X) vs cs.tail
mutual
def vN (ds:List Decl) (fs:List CFun):Node → (Int → Bool) → (Int → Bool) → Bool
 | .mk op n ty args brs,X,A=>match headOf ds fs op n ty with
   | none=>false
   | some (want,xs)=>(if op=0 then X n else if op=5 then A n else true) && vNs ds fs args want (if op=7 then addV X n else X) (if op=3 then addV A n else A) && vBs ds fs brs xs X A
def vNs (ds:List Decl) (fs:List CFun):List Node → List Int → (Int → Bool) → (Int → Bool) → Bool
 | [],[],_,_=>true
 | a :: as,w :: ws,X,A=>decide (sortOf a.op=w) && vN ds fs a X A && vNs ds fs as ws X A
 | _,_,_,_=>false
def vB (ds:List Decl) (fs:List CFun):Br → Xtor → (Int → Bool) → (Int → Bool) → Bool
 | .mk vars co body,x,X,A=>decide (vars.length=x.args.length) && decide (co=x.args.map fun a=>a.co) && distinctOk [] (vars.zip co) && decide (sortOf body.op=2) &&
   vN ds fs body (addsV false X vars co) (addsV true A vars co)
def vBs (ds:List Decl) (fs:List CFun):List Br → List Xtor → (Int → Bool) → (Int → Bool) → Bool
 | [],[],_,_=>true
 | b :: bs,x :: xs,X,A=>vB ds fs b x X A && vBs ds fs bs xs X A
 | _,_,_,_=>false
end
theorem vN_eq (ds:List Decl) (fs:List CFun) (a:Node) (X A:Int → Bool):vN ds fs a X A=match headOf ds fs a.op a.n a.ty with
 | none=>false
 | some (want,xs)=>(if a.op=0 then X a.n else if a.op=5 then A a.n else true) && vNs ds fs a.args want (if a.op=7 then addV X a.n else X) (if a.op=3 then addV A a.n else A) && vBs ds fs a.brs xs X A:=by
 cases a
 rw [vN]
 rfl
theorem vB_eq (ds:List Decl) (fs:List CFun) (b:Br) (x:Xtor) (X A:Int → Bool):vB ds fs b x X A=(decide (b.vars.length=x.args.length) && decide (b.co=x.args.map fun a=>a.co) && distinctOk [] (b.vars.zip b.co) && decide (sortOf b.body.op=2) &&
 vN ds fs b.body (addsV false X b.vars b.co) (addsV true A b.vars b.co)):=by
 cases b
 rw [vB]
 rfl
def Bn (X:Int → Int) (k:Int):Prop:=∀ n,0 ≤ X n ∧ X n ≤ k
theorem Bn.bd {X:Int → Int} {k b:Int} (h:Bn X k) (hb:k ≤ b):Bd X b:=fun n=>by have:=h n;omega
theorem Bn.le {X:Int → Int} {k b:Int} (h:Bn X k) (hb:k ≤ b):Bn X b:=fun n=>by have:=h n;omega
theorem Bn.add {X:Int → Int} {b v:Int} (h:Bn X b):Bn (addK X v 1) (b + 1):=by
 intro n
 have:=h n
 unfold addK
 split <;> omega
def pos (X:Int → Int):Int → Bool:=fun n=>decide (0 < X n)
theorem pos_add {X:Int → Int} {k v:Int} (h:Bn X k):pos (addK X v 1)=addV (pos X) v:=by
 funext n
 have:=h n
 unfold pos addV addK
 by_cases hn:n=v
 ·subst hn;simp;omega
 simp [hn]
theorem Bn.adds {w:Bool} {b:Int}:∀ {vars:List Int} {cos:List Bool} {X:Int → Int},Bn X b → Bn (addsK w X vars cos 1) (b + vars.length) ∧ pos (addsK w X vars cos 1)=addsV w (pos X) vars cos:=by
 intro vars
 induction vars generalizing b with
 | nil=>intro cos X h;exact ⟨h.le (by simp),rfl⟩
 | cons v vs ih =>
   intro cos X h
   simp only [addsK,addsV]
   by_cases hw:cos.headD false=w
   ·simp only [if_pos hw]
    obtain ⟨h1,h2⟩:=ih (cos:=cos.tail) (h.add (v:=v))
    exact ⟨h1.le (by simp;omega),by rw [h2,pos_add h]⟩
   simp only [if_neg hw]
   obtain ⟨h1,h2⟩:=ih (cos:=cos.tail) h
   exact ⟨h1.le (by simp;omega),h2⟩
theorem addK_back (X:Int → Int) (v:Int):addK (addK X v 1) v (-1)=X:=by
 funext n
 unfold addK
 by_cases h:n=v <;> simp [h] <;> omega
theorem addK_comm (X:Int → Int) (v w a b:Int):addK (addK X v a) w b=addK (addK X w b) v a:=by
 funext n
 unfold addK
 by_cases h:n=v <;> by_cases h':n=w <;> simp [h,h'] <;> (try split) <;> omega
theorem addsK_addK {w:Bool} {k a v:Int}:∀ (vars:List Int) (cos:List Bool) (X:Int → Int),addsK w (addK X v a) vars cos k=addK (addsK w X vars cos k) v a
 | [],_,_=>rfl
 | u :: vars,cos,X=>by
   simp only [addsK]
   by_cases hw:cos.headD false=w
   ·simp only [if_pos hw]
    rw [addK_comm,addsK_addK vars]
   simp only [if_neg hw]
   exact addsK_addK vars cos.tail X
theorem addsK_back {w:Bool}:∀ (vars:List Int) (cos:List Bool) (X:Int → Int),addsK w (addsK w X vars cos 1) vars cos (-1)=X
 | [],_,_=>rfl
 | v :: vars,cos,X=>by
   simp only [addsK]
   by_cases hw:cos.headD false=w
   ·simp only [if_pos hw]
    rw [addsK_addK vars,addsK_addK vars,addsK_addK vars,addK_back,addsK_back vars]
   simp only [if_neg hw]
   exact addsK_back vars cos.tail X
abbrev IXA (ix ia:Nat):Nat → Prop:=fun j=>j=ix ∨ j=ia
def ValidC (c:Core) (b:Node):Prop:=∀ (s:Sg) (o ix ia:Nat) (X A:Int → Int),SC o ix ia X A s → Bn X (2 ^ 41 - b.sz) → Bn A (2 ^ 41 - b.sz) →
 HC p N35_ [.agg (Core.cs c),.ptr o 0,.agg b.cs] s (fun r s'=>r=[B (vN c.decls c.funs b (pos X) (pos A))] ∧ SC o ix ia X A s' ∧ Chg (IXA ix ia) s s')
theorem children_l {o ix ia:Nat} (c:Core) (l:List Node) (want:List Int) (X A:Int → Int) (hlen:l.length=want.length) (hBX:∀ b ∈ l,Bn X (2 ^ 41 - b.sz)) (hBA:∀ b ∈ l,Bn A (2 ^ 41 - b.sz)) (H:∀ b ∈ l,ValidC c b) (i:Nat) (hi:i ≤ l.length) (hs:l.length ≤ 2 ^ 40) {n:Nat} {v:Nat → Bool} {D:List (Nat × List AV)} {S:Sg} {Q:Ex → Fr → Prop}
 (hS:SC o ix ia X A S) (hX:∀ j S',vNs c.decls c.funs (l.drop i) (want.drop i) (pos X) (pos A)=true → SC o ix ia X A S' → Chg (IXA ix ia) S S' → Q (.exit 0) ⟨uv (uv (upd (uv (uv (uv (uv e0 15 (B false)) 14 (I j)) 13 (I (l.map Node.enc).length)) 12 (.slice .none 5 (l.map Node.enc))) 4 (some (.loc 4 0))) 3 (SL 1 (want.map fun x=>I (x + 1)))) 1 (.ptr o 0),upd ((fun _=>none)) 4 (some (Core.cs c)),n,v,D,S'⟩)
 (hR:∀ S',vNs c.decls c.funs (l.drop i) (want.drop i) (pos X) (pos A)=false → SC o ix ia X A S' → Chg (IXA ix ia) S S' → Q .ret ⟨uv e0 8 (B false),(fun _=>none),n,v,D,S'⟩):EX (callL p) (.loop F80_l1) ⟨uv (uv (upd (uv (uv (uv e0 14 (I i)) 13 (I (l.map Node.enc).length)) 12 (.slice .none 5 (l.map Node.enc))) 4 (some (.loc 4 0))) 3 (SL 1 (want.map fun x=>I (x + 1)))) 1 (.ptr o 0),upd ((fun _=>none)) 4 (some (Core.cs c)),n,v,D,S⟩ Q:=by
 refine eloop (er (qp J (qb ?_)))
 rintro (_ | _) h1
 refine qn (kq7 J) (kq1 J) (eseq (ecF J (eexit (sqx ?_))))
 exact hX _ _ (by rw [List.drop_eq_nil_of_le (by simp at h1 ⊢;omega),List.drop_eq_nil_of_le (by simp at h1 ⊢;omega)];rfl) hS (Chg.refl _)
 refine qn (kq7 J) (kq1 J) (eseq (ecT J (eskip (sqn (eseq (eblock (er (qp J ?_))))))))
 have hlt:i < l.length:=by simpa using h1
 obtain ⟨a,ha⟩:=get_of_lt hlt
 have hd:=drop_cons ha
 refine hia (y:=.agg a.cs) rfl rfl (by omega) (by simp [ha,Node.enc_eq,Br.enc_eq,CFun.enc_eq]) rfl (hlda rfl rfl (lc rfl (lc rfl (lc rfl (lc rfl (lc rfl (ln rfl)))))) (hal (dc (dc (dc (dc (dc (dc (dc (dc (dc (dc dn rfl) rfl) rfl) rfl) rfl) rfl) rfl) rfl) rfl) rfl) (qp rfl (hstl rfl rfl rfl rfl (Nlb rfl) (lc rfl (lc rfl (lc rfl (lc rfl (lc rfl (ln rfl)))))) (qk (kc rfl (kc rfl (kc rfl (kc rfl (kc rfl (kc rfl (kc rfl (kc rfl kn)))))))) (kc rfl (kc rfl kn)) (sqn (eseq (ereg (qp rfl (qp rfl (hcall rfl rfl rfl (Kind_c _ _) ?_)))))))))))
 rintro _ _ ⟨rfl,rfl⟩
 refine pq2 J ?_
 obtain ⟨w,hw⟩:=get_of_lt (l:=want) (i:=i) (by omega)
 have hw2:=drop_cons hw
 refine hia (y:=I (w + 1)) rfl rfl (by omega) (by simp [hw]) rfl (qp rfl (qp rfl (qb ?_)))
 rintro (_ | _) h2
 refine qp J (qg J (hlda J J (lq2 J) (qg J (qp J (qg J (hlda J J (lq5 J) (qg J (hcall J J J (H a (Lmg ha) _ o ix ia X A hS (hBX a (Lmg ha)) (hBA a (Lmg ha))) ?_))))))))
 rintro _ S1 ⟨rfl,hS1,hc1⟩
 refine qb ?_
 rintro (_ | _) h3
 refine qg J (pq2 J (qn (kq7 J) (kq1 J) (ecT J (er (qp J (qn (kq1 J) kn (eret (bqr (sqr ?_)))))))))
 rotate_left
 refine qg J (pq2 J (qn (kq7 J) (kq1 J) (ecF J (eskip (bqn (sqn (ereg (hadd J J (i64w (by omega)) (qp J (qk (kq6 J) (kq1 J) ?_))))))))))
 have hy:vNs c.decls c.funs (l.drop i) (want.drop i) (pos X) (pos A)=vNs c.decls c.funs (l.drop (i + 1)) (want.drop (i + 1)) (pos X) (pos A):=by
  rw [hd,hw2]
  have e1:sortOf a.op=w:=by simp at h2;omega
  simp only [vNs,decide_eq_true e1,Bta]
  rw [show vN c.decls c.funs a (pos X) (pos A)=true from by assumption,Bta]
 exact children_l c l want X A hlen hBX hBA H (i + 1) (by omega) hs hS1 (fun j S2 h s c=>hX j S2 (hy.trans h) s (hc1.trans c)) (fun S2 h s c=>hR S2 (hy.trans h) s (hc1.trans c))
 refine qp J (zq5 J (qp J (qn (kq7 J) (kq1 J) (ecT J (er (qp J (qn (kq1 J) kn (eret (bqr (sqr ?_))))))))))
 rotate_left
 all_goals
  first
  | (have hv:vN c.decls c.funs a (pos X) (pos A)=false:=by assumption
     exact hR _ (by rw [hd,hw2];simp only [vNs,hv,Bool.and_false,Bfa]) hS1 hc1)
  | (have e1:¬ sortOf a.op=w:=by simp at h2;omega
     exact hR _ (by rw [hd,hw2];simp only [vNs,decide_eq_false e1,Bfa]) hS (Chg.refl _))
termination_by l.length - i
decreasing_by all_goals omega
theorem children_c (s:Sg) (c:Core) (a:Node) (want:List Int) (o ix ia:Nat) (X A:Int → Int) (hz:a.args.length ≤ 2 ^ 40) (hlen:a.args.length=want.length) (hBX:∀ b ∈ a.args,Bn X (2 ^ 41 - b.sz)) (hBA:∀ b ∈ a.args,Bn A (2 ^ 41 - b.sz)) (H:∀ b ∈ a.args,ValidC c b) (hS:SC o ix ia X A s):HC p N80_ [.agg (Core.cs c),.ptr o 0,.agg a.cs,SL 1 (want.map fun x=>I (x + 1))] s (fun r s'=>r=[B (vNs c.decls c.funs a.args want (pos X) (pos A))] ∧ SC o ix ia X A s' ∧ Chg (IXA ix ia) s s'):=by
 refine hcf J f80_ J ?_
 simp only [chainOf]
 refine er (hbox (dq4 J) J (lq2 J) (hbox (dq5 J) J (lq5 J) (qp J (qn (kq4 J) (kq2 J) (eseq (er (pq4 J (qn (kq6 J) (kq1 J) (eblock ?_)))))))))
 refine children_l c a.args want X A hlen hBX hBA H 0 (by omega) (by omega) hS ?_ ?_
 ·intro j S' hj hS' hc
  refine bqx (sqn (er (qp J (qn (kq1 J) kn (eret (fqr J ?_))))))
  refine ⟨?_,hS',hc⟩
  simp only [List.drop_zero] at hj
  rw [hj];rfl
 intro S' hj hS' hc
 refine bqr (sqr (fqr J ?_))
 refine ⟨?_,hS',hc⟩
 simp only [List.drop_zero] at hj
 rw [hj];rfl
end Go.Sim.Kd
namespace Go.Sim.Kd
open Go Go.Sim
theorem Br.sz_eq (b:Br):b.sz=1 + b.vars.length + b.co.length + b.body.sz:=by cases b;rfl
theorem Valid_l {o ix ia:Nat} (c:Core) (nd:Node) (l:List Br) (d:Decl) (X A:Int → Int) (hlen:l.length=d.xtors.length) (hd0:l ≠ [] → (1 ≤ nd.ty ∧ nd.ty ≤ c.decls.length) ∧ c.decls[(nd.ty - 1).toNat]?=some d) (hcl:c.decls.length ≤ 2 ^ 40) (hxa:∀ x ∈ d.xtors,x.args.length ≤ 2 ^ 40) (hzb:∀ b ∈ l,b.sz ≤ 2 ^ 40) (hBX:∀ b ∈ l,Bn X (2 ^ 41 - b.sz)) (hBA:∀ b ∈ l,Bn A (2 ^ 41 - b.sz)) (H:∀ b ∈ l,ValidC c b.body) (i:Nat) (hi:i ≤ l.length) (hs:l.length ≤ 2 ^ 40) {n:Nat} {v:Nat → Bool} {D:List (Nat × List AV)} {S:Sg} {Q:Ex → Fr → Prop}
 (hS:SC o ix ia X A S) (hX:∀ j S',vBs c.decls c.funs (l.drop i) (d.xtors.drop i) (pos X) (pos A)=true → SC o ix ia X A S' → Chg (IXA ix ia) S S' → Q (.exit 0) ⟨uv (upd (upd (uv (uv (uv (uv e0 70 (B false)) 69 (I j)) 68 (I (l.map Br.enc).length)) 67 (.slice .none 7 (l.map Br.enc))) 5 (some (.loc 5 0))) 3 (some (.loc 3 0))) 1 (.ptr o 0),upd (upd ((fun _=>none)) 5 (some (nd.cs))) 3 (some (Core.cs c)),n,v,D,S'⟩)
 (hR:∀ S',vBs c.decls c.funs (l.drop i) (d.xtors.drop i) (pos X) (pos A)=false → SC o ix ia X A S' → Chg (IXA ix ia) S S' → Q .ret ⟨uv e0 6 (B false),(fun _=>none),n,v,D,S'⟩):EX (callL p) (.loop F35_l1) ⟨uv (upd (upd (uv (uv (uv e0 69 (I i)) 68 (I (l.map Br.enc).length)) 67 (.slice .none 7 (l.map Br.enc))) 5 (some (.loc 5 0))) 3 (some (.loc 3 0))) 1 (.ptr o 0),upd (upd ((fun _=>none)) 5 (some (nd.cs))) 3 (some (Core.cs c)),n,v,D,S⟩ Q:=by
 refine eloop (er (qp J (qb ?_)))
 rintro (_ | _) h1
 refine qn (kq7 J) (kq2 J) (eseq (ecF J (eexit (sqx ?_))))
 exact hX _ _ (by rw [List.drop_eq_nil_of_le (by simp at h1 ⊢;omega),List.drop_eq_nil_of_le (by simp at h1 ⊢;omega)];rfl) hS (Chg.refl _)
 refine qn (kq7 J) (kq2 J) (eseq (ecT J (eskip (sqn (eseq (eblock (er (qp J ?_))))))))
 have hlt:i < l.length:=by simpa using h1
 obtain ⟨a,ha⟩:=get_of_lt hlt
 have hd:=drop_cons ha
 refine hia (y:=.agg (ints a.vars :: bools a.co :: a.body.cs)) rfl rfl (by omega) (by simp [ha,Node.enc_eq,Br.enc_eq,CFun.enc_eq]) rfl (hlda rfl rfl (lc rfl (lc rfl (lc rfl (lc rfl (lc rfl (lc rfl (lc rfl (ln rfl)))))))) (hal (dc (dc (dc (dc (dc (dc (dc (dc (dc (dc dn rfl) rfl) rfl) rfl) rfl) rfl) rfl) rfl) rfl) rfl) (qp rfl (hstl rfl rfl rfl rfl (Nlb rfl) (lc rfl (lc rfl (lc rfl (lc rfl (lc rfl (lc rfl (lc rfl (ln rfl)))))))) (qk (kc rfl (kc rfl (kc rfl (kc rfl (kc rfl (kc rfl (kc rfl (kc rfl kn)))))))) (kc rfl (kc rfl (kc rfl kn))) (sqn (eseq (ereg (qp rfl (qp rfl (qp rfl (qp rfl ?_))))))))))))
 obtain ⟨hty,hdd⟩:=hd0 (by intro e;subst e;simp at hlt)
 obtain ⟨x,hx⟩:=get_of_lt (l:=d.xtors) (i:=i) (by omega)
 have hx2:=drop_cons hx
 have hsz:=Br.sz_eq a
 have hza:=hzb a (Lmg ha)
 have hba:=hBX a (Lmg ha)
 have hbb:=hBA a (Lmg ha)
 refine hsub J J (i64w (by omega)) ?_
 refine hia (y:=Decl.enc d) rfl rfl (by omega) (by rw [Lgm,hdd];rfl) rfl ?_
 refine qp rfl (qp rfl (qp rfl (hia (y:=Xtor.enc x) rfl rfl (by omega) (by simp [hx]) rfl (qp rfl (qp rfl (hcall rfl rfl rfl (cos_c _ x.args (hxa x (Lmg hx))) ?_))))))
 rintro _ _ ⟨rfl,rfl⟩
 rw [show x.args.map (fun a=>B a.co)=(x.args.map fun (q:Arg)=>q.co).map B from by simp]
 refine qp J (qn (kq8 J) (kq3 J) (eseq (er (pq6 J (qb ?_)))))
 rintro (_ | _) h2
 refine qp J (qg J (qp J (qg J (qp J (qg J (qp J (qg J (hcall J J J (SameBools_c _ a.co (x.args.map fun (q:Arg)=>q.co) (by omega)) ?_))))))))
 rintro _ _ ⟨rfl,rfl⟩
 refine qb ?_
 rintro (_ | _) h3
 refine qg J (pq3 J (zq5 J (qp J (qn (kq8 J) (kq3 J) (ecT J (er (qp J (qn (kq1 J) kn (eret (sqr (bqr (sqr ?_))))))))))))
 rotate_left
 refine qg rfl (pq3 rfl (qg rfl (qp rfl (qg rfl (qp rfl (qg rfl (qp rfl (qg rfl (hcall rfl rfl rfl (distinct_c _ a.vars (x.args.map fun (q:Arg)=>q.co) (by simp at *;omega) (by omega)) ?_)))))))))
 rintro _ _ ⟨rfl,rfl⟩
 refine qb ?_
 rintro (_ | _) h4
 refine qg J (pq2 J (qn (kq8 J) (kq3 J) (ecT J (er (qp J (qn (kq1 J) kn (eret (sqr (bqr (sqr ?_))))))))))
 rotate_left
 refine qg J (pq2 J (qn (kq8 J) (kq3 J) (ecF J (eskip (sqn (er (qp J (hlda J J (lq7 J) (hcall J J J (branch_c _ o ix ia X A a hza 1 (by omega) hS (hba.bd (by omega)) (hbb.bd (by omega))) ?_)))))))))
 rintro _ S1 ⟨rfl,hS1,hc1⟩
 obtain ⟨q1,q2⟩:=Bn.adds (w:=false) (vars:=a.vars) (cos:=a.co) hba
 obtain ⟨q3,q4⟩:=Bn.adds (w:=true) (vars:=a.vars) (cos:=a.co) hbb
 have hc2:Chg (IXA ix ia) S1 S1:=Chg.refl S1
 have hS2:=hS1
 refine qn (kq7 J) (kq3 J) (er (pq3 J (hcall J J J (Kind_c _ _) ?_)))
 rintro _ _ ⟨rfl,rfl⟩
 refine qp J (qb ?_)
 rintro (_ | _) h5
 refine qp J (zq5 J (pq2 J (qn (kq8 J) (kq3 J) (er (qp J (hlda J J (lq7 J) (hcall J J J (branch_c _ o ix ia _ _ a hza (-1) (by omega) hS2 (q1.bd (by omega)) (q3.bd (by omega))) ?_)))))))
 rintro _ S3 ⟨rfl,hS3,hc3⟩
 refine qn (kq7 J) (kq2 J) (er (pq2 J (qn (kq7 J) (kq2 J) (ecT J (er (qp J (qn (kq1 J) kn (eret (bqr (sqr ?_))))))))))
 rotate_left
 refine qp J (qg J (hlda J J (lq2 J) (qg J (qp J (qg J (qp J (qg J (hlda J J (lq5 J) (qg J (hcall J J J (H a (Lmg ha) _ o ix ia _ _ hS1 (q1.le (by omega)) (q3.le (by omega))) ?_))))))))))
 rintro _ S2 ⟨rfl,hS2,hc2⟩
 rw [q2,q4]
 refine qb ?_
 rintro (_ | _) h6
 refine pq2 J (qn (kq8 J) (kq3 J) (er (qp J (hlda J J (lq7 J) (hcall J J J (branch_c _ o ix ia _ _ a hza (-1) (by omega) hS2 (q1.bd (by omega)) (q3.bd (by omega))) ?_)))))
 rintro _ S3 ⟨rfl,hS3,hc3⟩
 refine qn (kq7 J) (kq2 J) (er (pq2 J (qn (kq7 J) (kq2 J) (ecT J (er (qp J (qn (kq1 J) kn (eret (bqr (sqr ?_))))))))))
 rotate_left
 refine pq2 J (qn (kq8 J) (kq3 J) (er (qp J (hlda J J (lq7 J) (hcall J J J (branch_c _ o ix ia _ _ a hza (-1) (by omega) hS2 (q1.bd (by omega)) (q3.bd (by omega))) ?_)))))
 rintro _ S3 ⟨rfl,hS3,hc3⟩
 refine qn (kq7 J) (kq2 J) (er (pq2 J (qn (kq7 J) (kq2 J) (ecF J (eskip (bqn (sqn (ereg (hadd J J (i64w (by omega)) (qp J (qk (kq6 J) (kq2 J) ?_)))))))))))
 have hy:vBs c.decls c.funs (l.drop i) (d.xtors.drop i) (pos X) (pos A)=(vB c.decls c.funs a x (pos X) (pos A) && vBs c.decls c.funs (l.drop (i + 1)) (d.xtors.drop (i + 1)) (pos X) (pos A)):=by rw [hd,hx2];rfl
 rw [vB_eq] at hy
 have f5:decide (a.co=(x.args.map fun (q:Arg)=>q.co))=true:=by assumption
 have f1:vN c.decls c.funs a.body (addsV false (pos X) a.vars a.co) (addsV true (pos A) a.vars a.co)=true:=by assumption
 have f2:decide (sortOf a.body.op + 1=3)=true:=by assumption
 have f3:decide (sortOf a.body.op=2)=true:=by simp at f2 ⊢;omega
 have f4:distinctOk [] (a.vars.zip (x.args.map fun (q:Arg)=>q.co))=true:=by assumption
 have f6:decide (a.vars.length=x.args.length)=true:=by simp at h2 ⊢;omega
 rw [← Odt f5] at f4
 rw [f1,f3,f4,f6,show decide (a.co=x.args.map fun a=>a.co)=true from f5] at hy
 simp only [Bool.and_true,Bta] at hy
 rw [addsK_back,addsK_back] at hS3
 have hcc:=hc1.trans (hc2.trans hc3)
 exact Valid_l c nd l d X A hlen hd0 hcl hxa hzb hBX hBA H (i + 1) (by omega) hs hS3 (fun j S4 h s cc=>hX j S4 (hy.trans h) s (hcc.trans cc)) (fun S4 h s cc=>hR S4 (hy.trans h) s (hcc.trans cc))
 refine qp J (zq5 J (pq2 J (zq5 J (qp J (qn (kq8 J) (kq3 J) (ecT J (er (qp J (qn (kq1 J) kn (eret (sqr ?_)))))))))))
 refine bqr (sqr ?_)
 rotate_left
 all_goals
  first
  | (have hy:vBs c.decls c.funs (l.drop i) (d.xtors.drop i) (pos X) (pos A)=(vB c.decls c.funs a x (pos X) (pos A) && vBs c.decls c.funs (l.drop (i + 1)) (d.xtors.drop (i + 1)) (pos X) (pos A)):=by rw [hd,hx2];rfl
     rw [vB_eq] at hy
     have f1:vN c.decls c.funs a.body (addsV false (pos X) a.vars a.co) (addsV true (pos A) a.vars a.co)=false:=by assumption
     rw [addsK_back,addsK_back] at hS3
     have hcc:=hc1.trans (hc2.trans hc3)
     exact hR S3 (by rw [hy,f1,Bool.and_false,Bfa]) hS3 hcc)
  | (have hy:vBs c.decls c.funs (l.drop i) (d.xtors.drop i) (pos X) (pos A)=(vB c.decls c.funs a x (pos X) (pos A) && vBs c.decls c.funs (l.drop (i + 1)) (d.xtors.drop (i + 1)) (pos X) (pos A)):=by rw [hd,hx2];rfl
     rw [vB_eq] at hy
     have f2:decide (sortOf a.body.op + 1=3)=false:=by assumption
     have f3:decide (sortOf a.body.op=2)=false:=by simp at f2 ⊢;omega
     rw [addsK_back,addsK_back] at hS3
     have hcc:=hc1.trans (hc2.trans hc3)
     exact hR S3 (by rw [hy,f3];simp only [Bool.and_false,Bfa]) hS3 hcc)
  | (have hy:vBs c.decls c.funs (l.drop i) (d.xtors.drop i) (pos X) (pos A)=(vB c.decls c.funs a x (pos X) (pos A) && vBs c.decls c.funs (l.drop (i + 1)) (d.xtors.drop (i + 1)) (pos X) (pos A)):=by rw [hd,hx2];rfl
     rw [vB_eq] at hy
     have f5:decide (a.co=(x.args.map fun (q:Arg)=>q.co))=true:=by assumption
     have f4:distinctOk [] (a.vars.zip (x.args.map fun (q:Arg)=>q.co))=false:=by assumption
     exact hR _ (by rw [hy,Odt f5,f4];simp only [Bool.and_false,Bfa]) hS (Chg.refl _))
  | (have hy:vBs c.decls c.funs (l.drop i) (d.xtors.drop i) (pos X) (pos A)=(vB c.decls c.funs a x (pos X) (pos A) && vBs c.decls c.funs (l.drop (i + 1)) (d.xtors.drop (i + 1)) (pos X) (pos A)):=by rw [hd,hx2];rfl
     rw [vB_eq] at hy
     have f5:decide (a.co=(x.args.map fun (q:Arg)=>q.co))=false:=by assumption
     exact hR _ (by rw [hy,f5];simp only [Bool.and_false,Bfa]) hS (Chg.refl _))
  | (have hy:vBs c.decls c.funs (l.drop i) (d.xtors.drop i) (pos X) (pos A)=(vB c.decls c.funs a x (pos X) (pos A) && vBs c.decls c.funs (l.drop (i + 1)) (d.xtors.drop (i + 1)) (pos X) (pos A)):=by rw [hd,hx2];rfl
     rw [vB_eq] at hy
     have f6:decide (a.vars.length=x.args.length)=false:=by
      simp at h2 ⊢;omega
     exact hR _ (by rw [hy,f6];simp only [Bool.and_false,Bfa]) hS (Chg.refl _))
termination_by l.length - i
decreasing_by all_goals omega
structure CoreSz (c:Core):Prop where
 dl:c.decls.length ≤ 2 ^ 40
 xa:∀ d ∈ c.decls,∀ x ∈ d.xtors,x.args.length ≤ 2 ^ 40
 ga:∀ g ∈ c.funs,g.params.length ≤ 2 ^ 40
theorem ArgsR.some {h:Option (List Int × List Xtor)} {w:List Int} {k:Int} {ok:Bool} (a:ArgsR h w k ok) (e:ok=true):∃ want xs,h=some (want,xs) ∧ w=want.map (· + 1) ∧ k=xs.length:=by
 unfold ArgsR at a
 split at a
 ·rename_i want xs;exact ⟨want,xs,rfl,a.2.1,a.2.2⟩
 rw [a] at e;cases e
theorem ArgsR.none {h:Option (List Int × List Xtor)} {w:List Int} {k:Int} {ok:Bool} (a:ArgsR h w k ok) (e:ok=false):h=none:=by
 unfold ArgsR at a
 split at a
 ·rw [a.1] at e;cases e
 rfl
theorem head_xs {ds:List Decl} {fs:List CFun} {op n ty:Int} {want:List Int} {xs:List Xtor} (h:headOf ds fs op n ty=some (want,xs)):∃ d:Decl,xs=d.xtors ∧ (xs ≠ [] → (1 ≤ ty ∧ ty ≤ ds.length) ∧ ds[(ty - 1).toNat]?=some d) ∧ (xs ≠ [] → d ∈ ds):=by
 by_cases hm:op=4 ∨ op=8
 ·have hq:decide (op=4)=true ∨ decide (op=8)=true:=by simpa using hm
  rw [head_match hq] at h
  split at h
  ·rename_i d hd
   split at h
   ·simp only [Oie,Pie] at h
    have hb:=declAt_bounds hd
    rw [declAt,if_pos hb.1] at hd
    exact ⟨d,h.2.symm,fun _=>⟨hb,hd⟩,fun _=>Lmg hd⟩
   cases h
  cases h
 have key:∀ (cnd:Prop) [Decidable cnd] (w:List Int),(if cnd then some (w,([]:List Xtor)) else none)=some (want,xs) → xs=[]:=by
  intro cnd _ w h
  split at h
  ·simp only [Oie,Pie] at h;exact h.2.symm
  cases h
 have this:xs=[]:=by
  by_cases h0:op=0 ∨ op=5
  ·rw [head_var (by simpa using h0)] at h;exact key _ _ h
  by_cases h1:op=1
  ·rw [head_int (by simpa using h1)] at h;exact key _ _ h
  by_cases h2:op=2 ∨ op=6
  ·rw [head_xtor (by simpa using h2)] at h
   split at h
   ·split at h
    ·simp only [Option.map_eq_some_iff,Pie] at h;obtain ⟨_,_,_,h⟩:=h;exact h.symm
    cases h
   cases h
  by_cases h3:op=3 ∨ op=7
  ·rw [head_mu (by simpa using h3)] at h;exact key _ _ h
  by_cases h9:op=9
  ·rw [head_cut (by simpa using h9)] at h;exact key _ _ h
  by_cases h10:op=10
  ·rw [head_prim (by simpa using h10)] at h;exact key _ _ h
  by_cases h11:op=11
  ·rw [head_ifz (by simpa using h11)] at h;exact key _ _ h
  by_cases h12:op=12
  ·rw [head_emit (by simpa using h12)] at h;exact key _ _ h
  by_cases h13:op=13
  ·rw [head_call (by simpa using h13)] at h
   split at h
   ·simp only [Option.map_eq_some_iff,Pie] at h;obtain ⟨_,_,_,h⟩:=h;exact h.symm
   cases h
  by_cases h14:op=14
  ·rw [head_done (by simpa using h14)] at h;exact key _ _ h
  rw [head_no (by simpa using h0) (by simpa using h1) (by simpa using h2) (by simpa using h3) (by simp;omega) (by simp;omega) (by simpa using h9) (by simpa using h10) (by simpa using h11) (by simpa using h12) (by simpa using h13) (by simpa using h14)] at h
  cases h
 subst this
 exact ⟨⟨⟨#[]⟩,false,[]⟩,rfl,fun h=>absurd rfl h,fun h=>absurd rfl h⟩
theorem pos_muX {X:Int → Int} {k:Int} (h:Bn X k) (a:Node):pos (muX X a 1)=(if a.op=7 then addV (pos X) a.n else pos X):=by
 unfold muX
 split
 ·exact pos_add h
 rfl
theorem pos_muA {X:Int → Int} {k:Int} (h:Bn X k) (a:Node):pos (muA X a 1)=(if a.op=3 then addV (pos X) a.n else pos X):=by
 unfold muA
 split
 ·exact pos_add h
 rfl
theorem Bn.muX {X:Int → Int} {k:Int} (h:Bn X k) (a:Node):Bn (muX X a 1) (k + 1):=by
 unfold Kd.muX
 split
 ·exact h.add
 exact h.le (by omega)
theorem Bn.muA {X:Int → Int} {k:Int} (h:Bn X k) (a:Node):Bn (muA X a 1) (k + 1):=by
 unfold Kd.muA
 split
 ·exact h.add
 exact h.le (by omega)
theorem muX_back (X:Int → Int) (a:Node):muX (muX X a 1) a (-1)=X:=by
 unfold muX
 split
 ·exact addK_back X a.n
 rfl
theorem muA_back (X:Int → Int) (a:Node):muA (muA X a 1) a (-1)=X:=by
 unfold muA
 split
 ·exact addK_back X a.n
 rfl
theorem vNs_len {ds:List Decl} {fs:List CFun}:∀ {as:List Node} {ws:List Int} {X A:Int → Bool},vNs ds fs as ws X A=true → as.length=ws.length
 | [],[],_,_,_=>rfl
 | [],_ :: _,_,_,h=>by simp [vNs] at h
 | _ :: _,[],_,_,h=>by simp [vNs] at h
 | a :: as,w :: ws,X,A,h=>by
   simp only [vNs,Bae] at h
   simp [vNs_len h.2]
theorem vBs_len {ds:List Decl} {fs:List CFun}:∀ {as:List Br} {ws:List Xtor} {X A:Int → Bool},vBs ds fs as ws X A=true → as.length=ws.length
 | [],[],_,_,_=>rfl
 | [],_ :: _,_,_,h=>by simp [vBs] at h
 | _ :: _,[],_,_,h=>by simp [vBs] at h
 | a :: as,w :: ws,X,A,h=>by
   simp only [vBs,Bae] at h
   simp [vBs_len h.2]
theorem Valid_c0 (c:Core) (hc:CoreSz c) (nd:Node) (hz:nd.sz ≤ 2 ^ 40) (H1:∀ b ∈ nd.args,ValidC c b) (H2:∀ b ∈ nd.brs,ValidC c b.body) (s:Sg) (o ix ia:Nat) (X A:Int → Int) (hS:SC o ix ia X A s) (hBX:Bn X (2 ^ 41 - nd.sz)) (hBA:Bn A (2 ^ 41 - nd.sz)):HC p N35_ [.agg (Core.cs c),.ptr o 0,.agg nd.cs] s (fun r s'=>r=[B (vN c.decls c.funs nd (pos X) (pos A))] ∧ SC o ix ia X A s' ∧ Chg (IXA ix ia) s s'):=by
 refine hcf J f35_ J ?_
 simp only [chainOf]
 refine er (hbox (dq3 J) J (lq2 J) (hbox (dq4 J) J (lq5 J) (qp J (qn (kq3 J) (kq2 J) (er (hlda J J (lq2 J) (hlda J J (lq5 J) (hcall J J J (args_c _ c nd hc.dl (fun d hd x hx=>hc.xa d (Lmg hd) x (Lmg hx)) (fun g hg=>hc.ga g (Lmg hg))) ?_))))))))
 rintro _ _ ⟨⟨w,k,ok,rfl,hA⟩,hq⟩
 obtain rfl:=hq.symm
 refine pq4 J (qb ?_)
 rintro (_ | _) h1
 refine pq3 J (qn (kq6 J) (kq2 J) (eseq (er (pq3 J (zq6 J (pq2 J (zq5 J ?_)))))))
 refine qp J (qn (kq5 J) (kq2 J) (ecT J (er (qp J (qn (kq1 J) kn (eret (sqr (fqr J ?_))))))))
 rotate_left
 refine pq3 J (qn (kq6 J) (kq2 J) (eseq (er (pq3 J (qg J (qp J (qg J (qp J (qg J (qp J (qg J (qp J (qg J (qp J (qg J (qp J (qb ?_)))))))))))))))))
 rintro (_ | _) h2
 refine pq2 J (qg J (qp J (qg J (qp J (qg J (qp J (qg J (qp J (qg J (qp J (qb ?_)))))))))))
 rintro (_ | _) h3
 refine qp J (qn (kq5 J) (kq2 J) (ecF J (eskip (sqn (eseq (er ?_))))))
 obtain ⟨want,xs,hh,hw,hk⟩:=hA.some ‹_›
 subst hw
 rw [show (want.map (· + 1)).map I=want.map fun x=>I (x + 1) from by simp]
 refine pq3 J (qb ?_)
 rintro (_ | _) h4
 refine qp J (qg J (qp J (qg J (qp J (qg J (qp J (qb ?_)))))))
 rintro (_ | _) h5
 refine qp J (qn (kq5 J) (kq2 J) (ecF J (eskip (sqn (er (qp J (hlda J J (lq5 J) (hcall J J J (mu_c _ o ix ia X A nd 1 (by omega) hS (hBX.bd (by omega)) (hBA.bd (by omega))) ?_))))))))
 rintro _ S1 ⟨rfl,hS1,hc1⟩
 refine qk (kc rfl (kc rfl (kc rfl (kc rfl kn)))) (kc rfl (kc rfl kn)) (sqn (eseq (ereg (hlda rfl rfl (lc rfl (lc rfl (ln rfl))) (qp rfl (hlda rfl rfl (lc rfl (lc rfl (lc rfl (lc rfl (lc rfl (ln rfl)))))) (qp rfl (hcall rfl rfl rfl (children_c _ c nd want o ix ia _ _ (by have:=nd.sz_args;omega) (by simp at *;omega) (fun b hb=>(hBX.muX nd).le (by have:=Node.sz_arg hb;omega)) (fun b hb=>(hBA.muA nd).le (by have:=Node.sz_arg hb;omega)) H1 hS1) ?_))))))))
 rintro _ S2 ⟨rfl,hS2,hc2⟩
 rw [pos_muX hBX,pos_muA hBA]
 refine qb ?_
 rintro (_ | _) h6
 refine qp J (qn (kq4 J) (kq2 J) (er (qp J (hlda J J (lq5 J) (hcall J J J (mu_c _ o ix ia _ _ nd (-1) (by omega) hS2 ((hBX.muX nd).bd (by omega)) ((hBA.muA nd).bd (by omega))) ?_)))))
 rintro _ S3 ⟨rfl,hS3,hc3⟩
 rw [muX_back,muA_back] at hS3
 refine qn (kq4 J) (kq2 J) (eseq (er (pq2 J (qn (kq4 J) (kq2 J) (ecT J (er (qp J (qn (kq1 J) kn (eret (sqr (fqr J ?_)))))))))))
 have g:vNs c.decls c.funs nd.args want (if nd.op=7 then addV (pos X) nd.n else pos X) (if nd.op=3 then addV (pos A) nd.n else pos A)=false:=by assumption
 have e:vN c.decls c.funs nd (pos X) (pos A)=false:=by
  rw [vN_eq,hh]
  simp only [g,Bool.and_false,Bfa]
 exact ⟨by rw [e];rfl,hS3,hc1.trans (hc2.trans hc3)⟩
 refine qp J (qn (kq4 J) (kq2 J) (er (qp J (hlda J J (lq5 J) (hcall J J J (mu_c _ o ix ia _ _ nd (-1) (by omega) hS2 ((hBX.muX nd).bd (by omega)) ((hBA.muA nd).bd (by omega))) ?_)))))
 rintro _ S3 ⟨rfl,hS3,hc3⟩
 rw [muX_back,muA_back] at hS3
 refine qn (kq4 J) (kq2 J) (eseq (er (pq2 J (qn (kq4 J) (kq2 J) (ecF J (eskip (sqn (eseq (er (pq4 J (qn (kq6 J) (kq2 J) (eblock ?_))))))))))))
 obtain ⟨d,hd1,hd2,hd3⟩:=head_xs hh
 have hlen:nd.brs.length=d.xtors.length:=by
  have hb:nd.brs.length=xs.length:=by simp at *;omega
  rw [hb,hd1]
 have hne:nd.brs ≠ [] → xs ≠ []:=by
  intro h e
  apply h
  apply Lnl
  rw [hlen,← hd1,e]
  rfl
 refine Valid_l c nd nd.brs d X A hlen (fun h=>hd2 (hne h)) hc.dl (fun x hx=>hc.xa d (hd3 (by rw [hd1];exact List.ne_nil_of_mem hx)) x hx) (fun b hb=>by have:=Node.sz_br hb;omega) (fun b hb=>hBX.le (by have:=Node.sz_br hb;omega)) (fun b hb=>hBA.le (by have:=Node.sz_br hb;omega)) H2 0 (by omega) (by have:=nd.sz_brs;omega) hS3 ?_ ?_
 intro j S4 hj hS4 hc4
 refine bqx (sqn (er (qp J (qn (kq1 J) kn (eret (fqr J ?_))))))
 have g:vBs c.decls c.funs nd.brs xs (pos X) (pos A)=true:=by rw [hd1];exact hj
 have g2:vNs c.decls c.funs nd.args want (if nd.op=7 then addV (pos X) nd.n else pos X) (if nd.op=3 then addV (pos A) nd.n else pos A)=true:=by assumption
 have c0:¬ nd.op=0:=by have:decide (nd.op=0)=false:=by assumption
                       simpa using this
 have c5:¬ nd.op=5:=by have:decide (nd.op=5)=false:=by assumption
                       simpa using this
 have e:vN c.decls c.funs nd (pos X) (pos A)=true:=by
  rw [vN_eq,hh]
  simp only [g,g2,if_neg c0,if_neg c5,Bool.and_true]
 exact ⟨by rw [e];rfl,hS4,(hc1.trans (hc2.trans hc3)).trans hc4⟩
 intro S4 hj hS4 hc4
 refine bqr (sqr (fqr J ?_))
 have g:vBs c.decls c.funs nd.brs xs (pos X) (pos A)=false:=by rw [hd1];exact hj
 have e:vN c.decls c.funs nd (pos X) (pos A)=false:=by
  rw [vN_eq,hh]
  simp only [g,Bool.and_false]
 exact ⟨by rw [e];rfl,hS4,(hc1.trans (hc2.trans hc3)).trans hc4⟩
 refine qp J (qn (kq5 J) (kq2 J) (ecT J (er (pq6 J (hcall J J J (SHas_c _ o ix ia X A (decide (nd.op=5)) nd.n hS) ?_)))))
 rintro _ _ ⟨rfl,hq⟩
 obtain rfl:=hq.symm
 refine qp J (qn (kq1 J) kn (eret (sqr (fqr J ?_))))
 have hv:decide (nd.op=0 ∨ nd.op=5)=true:=by simp at *;omega
 have hh0:=hh
 rw [head_var hv] at hh
 split at hh
 simp only [Oie,Pie] at hh
 obtain ⟨rfl,rfl⟩:=hh
 have a0:nd.args=[]:=by
  simp at h2
  first | exact h2 | exact Lnl (by omega)
 have b0:nd.brs=[]:=by
  rw [hk] at h3
  simp at h3
  first | exact h3 | exact Lnl (by omega)
 have e:vN c.decls c.funs nd (pos X) (pos A)=decide (0 < (if decide (nd.op=5)=true then A nd.n else X nd.n)):=by
  rw [vN_eq,hh0,a0,b0]
  simp only [vNs,vBs,Bool.and_true]
  by_cases h0:nd.op=0
  ·have h5:¬ nd.op=5:=by omega
   simp [h0,pos]
  have h5:nd.op=5:=by simp at hv;omega
  simp [h5,pos]
 exact ⟨by rw [e];rfl,hS,Chg.refl _⟩
 cases hh
 refine qp J (zq3 J (qp J (qn (kq5 J) (kq2 J) (ecT J (er (pq6 J (hcall J J J (SHas_c _ o ix ia X A (decide (nd.op=5)) nd.n hS) ?_)))))))
 rintro _ _ ⟨rfl,hq⟩
 obtain rfl:=hq.symm
 refine qp J (qn (kq1 J) kn (eret (sqr (fqr J ?_))))
 have hv:decide (nd.op=0 ∨ nd.op=5)=true:=by simp at *;omega
 have hh0:=hh
 rw [head_var hv] at hh
 split at hh
 simp only [Oie,Pie] at hh
 obtain ⟨rfl,rfl⟩:=hh
 have a0:nd.args=[]:=by
  simp at h2
  first | exact h2 | exact Lnl (by omega)
 have b0:nd.brs=[]:=by
  rw [hk] at h3
  simp at h3
  first | exact h3 | exact Lnl (by omega)
 have e:vN c.decls c.funs nd (pos X) (pos A)=decide (0 < (if decide (nd.op=5)=true then A nd.n else X nd.n)):=by
  rw [vN_eq,hh0,a0,b0]
  simp only [vNs,vBs,Bool.and_true]
  by_cases h0:nd.op=0
  ·have h5:¬ nd.op=5:=by omega
   simp [h0,pos]
  have h5:nd.op=5:=by simp at hv;omega
  simp [h5,pos]
 exact ⟨by rw [e];rfl,hS,Chg.refl _⟩
 cases hh
 refine qp J (qn (kq5 J) (kq2 J) (ecT J (er (qp J (qn (kq1 J) kn (eret (sqr (fqr J ?_))))))))
 rotate_left
 refine pq2 J (zq5 J (qp J (qn (kq5 J) (kq2 J) (ecT J (er (qp J (qn (kq1 J) kn (eret (sqr (fqr J ?_))))))))))
 rotate_left
 all_goals
  first
  | (have e:=hA.none ‹_›
     exact ⟨by rw [vN_eq,e];rfl,hS,Chg.refl _⟩)
  | (obtain ⟨want,xs,hh,hw,hk⟩:=hA.some ‹_›
     have e:vN c.decls c.funs nd (pos X) (pos A)=false:=by
      rw [vN_eq,hh]
      simp only
      rw [Bool.eq_false_iff]
      intro h
      simp only [Bae] at h
      have l1:=vNs_len h.1.2
      have l2:=vBs_len h.2
      subst hw
      simp at *
      omega
     exact ⟨by rw [e];rfl,hS,Chg.refl _⟩)
theorem Valid_c (c:Core) (hc:CoreSz c) (a:Node) (hz:a.sz ≤ 2 ^ 40):ValidC c a:=by
 induction a using Node.ind with
 | h a ih1 ih2 =>
   exact Valid_c0 c hc a hz (fun b hb=>ih1 b hb (by have:=Node.sz_arg hb;omega)) (fun b hb=>ih2 b hb (by have:=Node.sz_br hb;have:=b.sz_body;omega))
end Go.Sim.Kd
namespace Go.Sim.Kd
open Go Go.Sim
def addAll (X:Int → Int):List Int → (Int → Int)
 | []=>X
 | v :: vs=>addAll (addK X v 1) vs
theorem addAll_bn:∀ (l:List Int) {X:Int → Int} {k:Int},Bn X k → Bn (addAll X l) (k + l.length)
 | [],X,k,h=>h.le (by simp)
 | v :: vs,X,k,h=>(addAll_bn vs h.add).le (by simp;omega)
theorem addAll_pos:∀ (l:List Int) {X:Int → Int} {k:Int},Bn X k → ∀ n,pos (addAll X l) n=(pos X n || l.any fun v=>decide (n=v))
 | [],X,k,h,n=>by simp [addAll]
 | v :: vs,X,k,h,n=>by
   rw [addAll,addAll_pos vs h.add n,pos_add h]
   simp only [addV,List.any_cons]
   cases decide (n=v) <;> simp
theorem NS_l1 {o ix ia:Nat} (l:List Int) (X A:Int → Int) (i:Nat) (hi:i ≤ l.length) (hs:l.length ≤ 2 ^ 40) {x1:AV} {n:Nat} {v:Nat → Bool} {D:List (Nat × List AV)} {S:Sg} {Q:Ex → Fr → Prop}
 (hS:SC o ix ia X A S) (hB:Bn X (2 ^ 45 + i)) (hX:∀ j S',SC o ix ia (addAll X (l.drop i)) A S' → Chg (IXA ix ia) S S' → Q (.exit 0) ⟨uv (uv (uv (uv (uv (uv e0 17 (B false)) 16 (I j)) 15 (I (l.map I).length)) 14 (.slice .none 1 (l.map I))) 5 (.ptr o 0)) 1 (x1),(fun _=>none),n,v,D,S'⟩):EX (callL p) (.loop F36_l1) ⟨uv (uv (uv (uv (uv e0 16 (I i)) 15 (I (l.map I).length)) 14 (.slice .none 1 (l.map I))) 5 (.ptr o 0)) 1 (x1),(fun _=>none),n,v,D,S⟩ Q:=by
 refine eloop (er (qp J (qb ?_)))
 rintro (_ | _) h1
 ·refine qn (kq6 J) kn (eseq (ecF J (eexit (sqx ?_))))
  exact hX _ _ (by rw [List.drop_eq_nil_of_le (by simp at h1 ⊢;omega)];exact hS) (Chg.refl _)
 refine qn (kq6 J) kn (eseq (ecT J (eskip (sqn (eseq (eblock (er ?_)))))))
 have hlt:i < l.length:=by simpa using h1
 obtain ⟨a,ha⟩:=get_of_lt hlt
 have hd:=drop_cons ha
 refine hia (y:=I a) rfl rfl (by omega) (by simp [ha]) rfl (qp rfl (qp rfl (qk (kc rfl (kc rfl (kc rfl (kc rfl (kc rfl (kc rfl kn)))))) kn (sqn (ereg ?_)))))
 obtain ⟨cx,hx1,hx2⟩:=hS.hx
 have hb1:=hB a
 have hb2:=hx2 a
 refine pq3 J (hldo J hS.ho J ?_)
 refine qp J (hlk J J J hx1 ?_)
 rw [cntM_get]
 refine hadd J J (i64w (by omega)) (hmu J J J J hx1 ?_)
 refine qk (kq5 J) kn (bqn (sqn (ereg (hadd J J (i64w (by omega)) (qp J (qk (kq5 J) kn ?_))))))
 have hS1:=hS.setx hx2 a 1
 have hc1:Chg (IXA ix ia) S _:=(Chg.refl S).set (i:=ix) (o:=.map (.int .i64) (mset (cntM cx) (.int .i64 a) (some (I ((cx a).getD 0 + 1))))) fun _=>.inl rfl
 exact NS_l1 l _ A (i + 1) (by omega) hs hS1 (hB.add.le (by omega)) (fun j S2 h c=>hX j S2 (by rw [hd];exact h) (hc1.trans c))
termination_by l.length - i
decreasing_by all_goals omega
theorem NS_l2 {o ix ia:Nat} (l:List Int) (X A:Int → Int) (i:Nat) (hi:i ≤ l.length) (hs:l.length ≤ 2 ^ 40) {n:Nat} {v:Nat → Bool} {D:List (Nat × List AV)} {S:Sg} {Q:Ex → Fr → Prop}
 (hS:SC o ix ia X A S) (hB:Bn A (2 ^ 45 + i)) (hX:∀ j S',SC o ix ia X (addAll A (l.drop i)) S' → Chg (IXA ix ia) S S' → Q (.exit 2) ⟨uv (uv (uv (uv (uv e0 31 (B false)) 30 (I j)) 29 (I (l.map I).length)) 28 (.slice .none 1 (l.map I))) 5 (.ptr o 0),(fun _=>none),n,v,D,S'⟩):EX (callL p) (.loop F36_l2) ⟨uv (uv (uv (uv e0 30 (I i)) 29 (I (l.map I).length)) 28 (.slice .none 1 (l.map I))) 5 (.ptr o 0),(fun _=>none),n,v,D,S⟩ Q:=by
 refine eloop (er (qp J (qb ?_)))
 rintro (_ | _) h1
 ·refine qn (kq5 J) kn (eseq (ecF J (eexit (sqx ?_))))
  exact hX _ _ (by rw [List.drop_eq_nil_of_le (by simp at h1 ⊢;omega)];exact hS) (Chg.refl _)
 refine qn (kq5 J) kn (eseq (ecT J (eskip (sqn (eseq (eblock (er ?_)))))))
 have hlt:i < l.length:=by simpa using h1
 obtain ⟨a,ha⟩:=get_of_lt hlt
 have hd:=drop_cons ha
 refine hia (y:=I a) rfl rfl (by omega) (by simp [ha]) rfl (qp rfl (qp rfl (qk (kc rfl (kc rfl (kc rfl (kc rfl (kc rfl kn))))) kn (sqn (ereg ?_)))))
 obtain ⟨cx,hx1,hx2⟩:=hS.ha
 have hb1:=hB a
 have hb2:=hx2 a
 refine pq3 J (hldo J hS.ho J ?_)
 refine qp J (hlk J J J hx1 ?_)
 rw [cntM_get]
 refine hadd J J (i64w (by omega)) (hmu J J J J hx1 ?_)
 refine qk (kq4 J) kn (bqn (sqn (ereg (hadd J J (i64w (by omega)) (qp J (qk (kq4 J) kn ?_))))))
 have hS1:=hS.seta hx2 a 1
 have hc1:Chg (IXA ix ia) S _:=(Chg.refl S).set (i:=ia) (o:=.map (.int .i64) (mset (cntM cx) (.int .i64 a) (some (I ((cx a).getD 0 + 1))))) fun _=>.inr rfl
 exact NS_l2 l X _ (i + 1) (by omega) hs hS1 (hB.add.le (by omega)) (fun j S2 h c=>hX j S2 (by rw [hd];exact h) (hc1.trans c))
termination_by l.length - i
decreasing_by all_goals omega
theorem sc_init (s:Sg):let S2:=(s.new (.map (.int .i64) fun _=>none)).new (.map (.int .i64) fun _=>none)
 SC S2.nx s.nx (s.nx + 1) (fun _=>0) (fun _=>0) (S2.new (.row [.map s.nx,.map (s.nx + 1)])) ∧ Chg (fun _=>False) s (S2.new (.row [.map s.nx,.map (s.nx + 1)])):=by
 have e:cntM (fun _=>none)=fun _=>none:=by
  funext k
  cases k <;> try rfl
  rename_i kd n
  cases kd <;> rfl
 refine ⟨⟨new_ob,⟨fun _=>none,?_,fun _=>J⟩,⟨fun _=>none,?_,fun _=>J⟩,?_,?_,?_,?_,?_,?_⟩,Chg.new (Chg.new (Chg.new (Chg.refl s)))⟩
 ·rw [e,new_lt (by simp only [Sg.new];omega),new_lt (by simp only [Sg.new];omega)];exact new_ob
 ·rw [e,new_lt (by simp only [Sg.new];omega)];exact new_ob
 all_goals first | (simp only [Sg.new];omega) | omega
theorem NewScope_c (s:Sg) (xs ys:List Int) (h1:xs.length ≤ 2 ^ 40) (h2:ys.length ≤ 2 ^ 40):HC p N36_ [ints xs,ints ys] s (fun r s'=>∃ o ix ia,r=[.ptr o 0] ∧ SC o ix ia (addAll (fun _=>0) xs) (addAll (fun _=>0) ys) s' ∧ Ext s s' ∧ s.nx ≤ ix ∧ s.nx ≤ ia ∧ s.nx ≤ o):=by
 refine hcf J f36_ J ?_
 simp only [chainOf]
 refine er (qp J (qn (kq2 J) kn (er (hmkm (hmkm (hbuild J J (lq2 J) (hboxo J (lq2 J) (qp J (qn (kq3 J) kn (eseq (er (pq3 J (qn (kq5 J) kn (eblock (NS_l1 xs _ _ 0 (by omega) h1 (sc_init s).1 (fun n=>by omega) ?_)))))))))))))))
 intro j S1 hS1 hc1
 refine bqx (sqn (eseq (er (pq3 J (qn (kq4 J) kn (eblock (NS_l2 ys _ _ 0 (by omega) h2 hS1 (fun n=>by omega) ?_)))))))
 intro q S2 hS2 hc2
 refine bqx (sqn (er (pq2 J (qn (kq1 J) kn (eret (fqr J ?_))))))
 simp only [List.drop_zero] at hS2
 exact ⟨_,_,_,rfl,hS2,(((sc_init s).2.mono fun _ _ h=>h.elim).trans (hc1.trans hc2)).ext fun i h=>by rcases h with h | h <;> omega,Nat.le_refl _,by omega,by simp only [Sg.new];omega⟩
end Go.Sim.Kd
namespace Go.Sim.Kd
open Go Go.Sim
structure Two (o2 o3:Own) (v:Nat → Bool) (n:Nat):Prop where
 c2:Can o2 v
 c3:Can o3 v
 l2:∀ t,o2=.tip t → t < n
 l3:∀ t,o3=.tip t → t < n
 ne:∀ t,o2=.tip t → o3 ≠ .tip t
theorem canKeep {o:Own} {v v':Nat → Bool} (h:Can o v) (k:∀ t,o=.tip t → v' t=v t):Can o v':=by
 cases o with
 | none=>exact h
 | full=>trivial
 | tip t=>exact (k t rfl).trans h
 | gt g=>exact h
theorem Two.step2 {o2 o3:Own} {v v':Nat → Bool} {n:Nat} (h:Two o2 o3 v n) (c:Can (.tip n) v') (k:∀ t,t ≠ n → o2 ≠ .tip t → v' t=v t):Two (.tip n) o3 v' (n + 1) :=
 ⟨c,canKeep h.c3 fun t e=>k t (by have:=h.l3 t e;omega) fun e'=>h.ne t e' e,fun t e=>by cases e;omega,fun t e=>by have:=h.l3 t e;omega,fun t e e'=>by cases e;have:=h.l3 _ e';omega⟩
theorem Two.step3 {o2 o3:Own} {v v':Nat → Bool} {n:Nat} (h:Two o2 o3 v n) (c:Can (.tip n) v') (k:∀ t,t ≠ n → o3 ≠ .tip t → v' t=v t):Two o2 (.tip n) v' (n + 1) :=
 ⟨canKeep h.c2 fun t e=>k t (by have:=h.l2 t e;omega) fun e'=>h.ne t e e',c,fun t e=>by have:=h.l2 t e;omega,fun t e=>by cases e;omega,fun t e e'=>by cases e';have:=h.l2 _ e;omega⟩
def parOf (co:Bool) (l:List (Arg × Int)):List Int:=(l.filter fun q=>q.1.co == co).map (·.2)
theorem parOf_add {co:Bool} {l:List (Arg × Int)} {q:Arg × Int}:parOf co (l ++ [q])=parOf co l ++ (if q.1.co=co then [q.2] else []):=by
 unfold parOf
 rw [List.filter_append,List.map_append]
 congr 1
 by_cases h:q.1.co=co <;> simp [h]
theorem zipA_at {ps:List Arg} {vs:List Int} {i:Nat} {x:Arg} {c:Int} (h:ps[i]?=some x) (k:vs[i]?=some c):(ps.zip vs)[i]?=some (x,c):=by simp [List.getElem?_zip_eq_some,h,k]
theorem parOf_len {co:Bool} (l:List (Arg × Int)):(parOf co l).length ≤ l.length:=by
 unfold parOf
 rw [List.length_map]
 exact List.length_filter_le ..
theorem Params_l (ps:List Arg) (vs:List Int) {x10 y3 y4 y5 y6 y7:AV} (o2 o3:Own) (hlen:ps.length=vs.length) (hz:vs.length ≤ 2 ^ 30) (i:Nat) (hi:i ≤ ps.length) (hs:ps.length ≤ 2 ^ 40) {n:Nat} {v:Nat → Bool} {D:List (Nat × List AV)} {S:Sg} {Q:Ex → Fr → Prop}
 (hT:Two o2 o3 v n) (hX:∀ j o2' o3' n' v',Q (.exit 0) ⟨upd (uv (uv (uv (uv (uv (uv e0 10 (B false)) 9 (I j)) 8 (I (ps.map Arg.enc).length)) 7 (.slice .none 2 (ps.map Arg.enc))) 3 (.slice o3' 1 ((parOf true (ps.zip vs)).map I))) 2 (.slice o2' 1 ((parOf false (ps.zip vs)).map I))) 1 (some (.loc 1 0)),upd ((fun _=>none)) 1 (some ([x10,encArgs ps,ints vs,y3,y4,y5,y6,y7])),n',v',D,S⟩):EX (callL p) (.loop F37_l1) ⟨upd (uv (uv (uv (uv (uv e0 9 (I i)) 8 (I (ps.map Arg.enc).length)) 7 (.slice .none 2 (ps.map Arg.enc))) 3 (.slice o3 1 ((parOf true ((ps.zip vs).take i)).map I))) 2 (.slice o2 1 ((parOf false ((ps.zip vs).take i)).map I))) 1 (some (.loc 1 0)),upd ((fun _=>none)) 1 (some ([x10,encArgs ps,ints vs,y3,y4,y5,y6,y7])),n,v,D,S⟩ Q:=by
 refine eloop (er (qp J (qb ?_)))
 rintro (_ | _) h1
 refine qn (kq7 J) (kq1 J) (eseq (ecF J (eexit (sqx ?_))))
 have he:(ps.zip vs).take i=ps.zip vs:=List.take_of_length_le (by simp at *;omega)
 rw [he]
 exact hX _ _ _ _ _
 refine qn (kq7 J) (kq1 J) (eseq (ecT J (eskip (sqn (eseq (eblock (er (qp J ?_))))))))
 have hlt:i < ps.length:=by simpa using h1
 obtain ⟨a,ha⟩:=get_of_lt hlt
 have hd:=drop_cons ha
 refine hia (y:=Arg.enc a) rfl rfl (by omega) (by simp [ha]) rfl (hlda rfl rfl (lc rfl (lc rfl (ln rfl))) (hal (dc (dc (dc (dc (dc (dc (dc (dc (dc (dc dn rfl) rfl) rfl) rfl) rfl) rfl) rfl) rfl) rfl) rfl) (qp rfl (hstl rfl rfl rfl rfl (Nlb rfl) (lc rfl (lc rfl (ln rfl))) (qk (kc rfl (kc rfl (kc rfl (kc rfl (kc rfl (kc rfl (kc rfl (kc rfl kn)))))))) (kc rfl (kc rfl kn)) (sqn (eseq (ereg (qp rfl (qp rfl (qb ?_)))))))))))
 rintro (_ | _) h2
 refine qn (kq8 J) (kq1 J) (ecF J (ereg (pq4 J ?_)))
 obtain ⟨w,hw⟩:=get_of_lt (l:=vs) (i:=i) (by omega)
 have ht:(ps.zip vs).take (i + 1)=(ps.zip vs).take i ++ [(a,w)]:=by simp [List.take_add_one,zipA_at ha hw]
 refine hia (y:=I w) rfl rfl (by omega) (by simp [hw]) rfl (qp rfl (hbsl rfl rfl (lc rfl (ln rfl)) (hapC rfl rfl hT.c2 (by simp) (by simp;have:=parOf_len (co:=false) ((ps.zip vs).take i);simp at this;omega) (r:=(parOf false ((ps.zip vs).take (i + 1))).map I) (by rw [ht,parOf_add,if_pos ‹_›];simp [AV.er]) ?_)))
 intro v1 hc1 hv1
 have hT1:=hT.step2 hc1 hv1
 rotate_left
 refine qn (kq8 J) (kq1 J) (ecT J (ereg (pq4 J ?_)))
 obtain ⟨w,hw⟩:=get_of_lt (l:=vs) (i:=i) (by omega)
 have ht:(ps.zip vs).take (i + 1)=(ps.zip vs).take i ++ [(a,w)]:=by simp [List.take_add_one,zipA_at ha hw]
 refine hia (y:=I w) rfl rfl (by omega) (by simp [hw]) rfl (qp rfl (hbsl rfl rfl (lc rfl (ln rfl)) (hapC rfl rfl hT.c3 (by simp) (by simp;have:=parOf_len (co:=true) ((ps.zip vs).take i);simp at this;omega) (r:=(parOf true ((ps.zip vs).take (i + 1))).map I) (by rw [ht,parOf_add,if_pos ‹_›];simp [AV.er]) ?_)))
 intro v1 hc1 hv1
 have hT1:=hT.step3 hc1 hv1
 rotate_left
 all_goals
  refine qp J (qk (kq6 J) (kq1 J) (bqn (sqn (ereg (hadd J J (i64w (by omega)) (qp J (qk (kq6 J) (kq1 J) ?_)))))))
  first
  | (have hco:a.co=true:=by assumption
     have e:parOf false ((ps.zip vs).take i)=parOf false ((ps.zip vs).take (i + 1)):=by rw [ht,parOf_add,if_neg (by show ¬ a.co=false;rw [hco];simp)];simp
     rw [e]
     exact Params_l ps vs o2 _ hlen hz (i + 1) (by omega) hs hT1 hX)
  | (have hco:a.co=false:=by assumption
     have e:parOf true ((ps.zip vs).take i)=parOf true ((ps.zip vs).take (i + 1)):=by rw [ht,parOf_add,if_neg (by show ¬ a.co=true;rw [hco];simp)];simp
     rw [e]
     exact Params_l ps vs _ o3 hlen hz (i + 1) (by omega) hs hT1 hX)
termination_by ps.length - i
decreasing_by all_goals omega
theorem Params_c (s:Sg) (g:CFun) (hlen:g.params.length=g.vars.length) (hz:g.vars.length ≤ 2 ^ 30):HC p N37_ [.agg (Str g.name :: encArgs g.params :: ints g.vars :: g.body.cs)] s (fun r s'=>r=[ints (parOf false (g.params.zip g.vars)),ints (parOf true (g.params.zip g.vars))] ∧ s'=s):=by
 refine hcf J f37_ J ?_
 simp only [chainOf]
 refine er (hbox (dc dn J) J (lq8 J) (pq2 J (qn (kq3 J) (kq1 J) (eseq (er (pq4 J (qn (kq6 J) (kq1 J) (eblock (Params_l g.params g.vars .full .full hlen (by omega) 0 (by omega) (by omega) ⟨trivial,trivial,fun t e=>by (cases e),fun t e=>by (cases e),fun t e=>by (cases e)⟩ ?_)))))))))
 intro j o2 o3 n' v'
 refine bqx (sqn (er (pq4 J (qn (kq2 J) kn (eret (fqr J ?_))))))
 exact ⟨rfl,rfl⟩
def parOk (N i:Nat) (a:Arg):Bool:=decide (0 ≤ a.ty) && decide (a.ty ≤ N) && !(decide (i=0) && (a.co || decide (a.ty ≠ 0)))
def funOk (N i:Nat) (names:List ByteArray) (g:CFun):Bool:=nameOk g.name && decide (g.params.length ≤ 6) && decide (g.vars.length=g.params.length) && distinctOk [] (g.vars.zip (g.params.map fun (q:Arg)=>q.co)) &&
 !(names.any fun y=>decide (g.name=y)) && g.params.all (parOk N i)
def funsOk (N:Nat):Nat → List ByteArray → List CFun → Bool
 | _,_,[]=>true
 | i,names,g :: gs=>funOk N i names g && funsOk N (i + 1) (names ++ [g.name]) gs
def headsOk (c:Core):Bool:=decide (1 ≤ c.funs.length) && decide (c.funs.length ≤ 12) && funsOk c.decls.length 0 [] c.funs
theorem heads_l3 {al:List CFun} (c:Core) (k:Nat) (l:List Arg) (i:Nat) (hi:i ≤ l.length) (hs:l.length ≤ 2 ^ 40) {x20 x21 x22:AV} {n:Nat} {v:Nat → Bool} {D:List (Nat × List AV)} {S:Sg} {Q:Ex → Fr → Prop}
 (hX:∀ j,(l.drop i).all (parOk c.decls.length k)=true → Q (.exit 4) ⟨upd (uv (uv (uv (uv (uv (uv (uv (uv e0 74 (B false)) 73 (I j)) 72 (I (l.map Arg.enc).length)) 71 (.slice .none 2 (l.map Arg.enc))) 22 (x22)) 21 (x21)) 20 (x20)) 3 (I k)) 1 (some (.loc 1 0)),upd ((fun _=>none)) 1 (some ([SL 3 (c.decls.map Decl.enc),SL 8 (al.map CFun.enc)])),n,v,D,S⟩) (hR:(l.drop i).all (parOk c.decls.length k)=false → Q .ret ⟨uv e0 2 (B false),(fun _=>none),n,v,D,S⟩):EX (callL p) (.loop F32_l3) ⟨upd (uv (uv (uv (uv (uv (uv (uv e0 73 (I i)) 72 (I (l.map Arg.enc).length)) 71 (.slice .none 2 (l.map Arg.enc))) 22 (x22)) 21 (x21)) 20 (x20)) 3 (I k)) 1 (some (.loc 1 0)),upd ((fun _=>none)) 1 (some ([SL 3 (c.decls.map Decl.enc),SL 8 (al.map CFun.enc)])),n,v,D,S⟩ Q:=by
 refine eloop (er (qp J (qb ?_)))
 rintro (_ | _) h1
 refine qn (kq9 J) (kq1 J) (eseq (ecF J (eexit (sqx ?_))))
 exact hX _ (by rw [List.drop_eq_nil_of_le (by simp at h1 ⊢;omega)];rfl)
 refine qn (kq9 J) (kq1 J) (eseq (ecT J (eskip (sqn (eseq (eblock (er ?_)))))))
 have hlt:i < l.length:=by simpa using h1
 obtain ⟨a,ha⟩:=get_of_lt hlt
 have hd:=drop_cons ha
 refine hia (y:=Arg.enc a) rfl rfl (by omega) (by simp [ha]) rfl (hlda rfl rfl (lc rfl (lc rfl (ln rfl))) (hal (dc (dc (dc (dc (dc (dc (dc (dc (dc (dc (dc dn rfl) rfl) rfl) rfl) rfl) rfl) rfl) rfl) rfl) rfl) rfl) (hstl rfl rfl rfl rfl (Nlb rfl) (lc rfl (lc rfl (ln rfl))) (qk (kc rfl (kc rfl (kc rfl (kc rfl (kc rfl (kc rfl (kc rfl (kc rfl (kc rfl kn))))))))) (kc rfl (kc rfl kn)) (sqn (eseq (ereg (qp rfl (qp rfl (qp rfl (qb ?_)))))))))))
 rintro (_ | _) h2
 refine qp J (qg J (qp J (qg J (qp J (qg J (qp J (qg J (qp J (qg J (qp J (qg J (qp J (qb ?_)))))))))))))
 rintro (_ | _) h3
 refine pq2 J (qg J (qp J (qg J (qp J (qb ?_)))))
 rintro (_ | _) h4
 refine qg J (qp J (zq7 J (qg J (pq2 J (qn (kq9 J) (kq1 J) (ecF J (eskip (bqn (sqn (ereg (hadd J J (i64w (by omega)) (qp J (qk (kq8 J) (kq1 J) ?_)))))))))))))
 have e:parOk c.decls.length k a=true:=by
  clear hX hR
  simp_all [parOk] <;> omega
 exact heads_l3 c k l (i + 1) (by omega) hs (fun j h=>hX j (by rw [hd,List.all_cons,e,h];rfl)) (fun h=>hR (by rw [hd,List.all_cons,h,Bool.and_false]))
 refine qg J (qp J (qg J (qp J (qg J (qp J (qb ?_))))))
 rintro (_ | _) h5
 refine qg J (qp J (qg J (qp J (qg J (qp J (qg J (qp J (qb ?_))))))))
 rintro (_ | _) h6
 refine qg J (qp J (qg J (pq2 J (qn (kq9 J) (kq1 J) (ecF J (eskip (bqn (sqn (ereg (hadd J J (i64w (by omega)) (qp J (qk (kq8 J) (kq1 J) ?_))))))))))))
 have e:parOk c.decls.length k a=true:=by
  clear hX hR
  simp_all [parOk] <;> omega
 exact heads_l3 c k l (i + 1) (by omega) hs (fun j h=>hX j (by rw [hd,List.all_cons,e,h];rfl)) (fun h=>hR (by rw [hd,List.all_cons,h,Bool.and_false]))
 refine qg J (qp J (qg J (pq2 J (qn (kq9 J) (kq1 J) (ecT J (er (qp J (qn (kq1 J) kn (eret (bqr (sqr ?_)))))))))))
 rotate_left
 refine qg J (qp J (zq3 J (qg J (qp J (qg J (pq2 J (qn (kq9 J) (kq1 J) (ecT J (er (qp J (qn (kq1 J) kn (eret (bqr (sqr ?_))))))))))))))
 rotate_left
 refine pq2 J (zq10 J (zq1 J (qp J (qn (kq9 J) (kq1 J) (ecT J (er (qp J (qn (kq1 J) kn (eret (bqr ?_))))))))))
 refine sqr ?_
 rotate_left
 refine qp J (zq6 J (pq2 J (zq10 J (zq1 J (qp J (qn (kq9 J) (kq1 J) (ecT J ?_)))))))
 refine er (qp J (qn (kq1 J) kn (eret (bqr (sqr ?_)))))
 rotate_left
 all_goals
  have e:parOk c.decls.length k a=false:=by
   clear hX hR
   simp_all [parOk] <;> omega
  exact hR (by rw [hd,List.all_cons,e,Bfa])
termination_by l.length - i
decreasing_by all_goals omega
theorem heads_l2 {al:List CFun} (c:Core) (g:CFun) (l:List CFun) (i:Nat) (hi:i ≤ l.length) (hs:l.length ≤ 2 ^ 40) {x3 x20 x21 x22:AV} {n:Nat} {v:Nat → Bool} {D:List (Nat × List AV)} {S:Sg} {Q:Ex → Fr → Prop}
 (hX:∀ j,(((l.drop i).map CFun.name).any fun y=>decide (g.name=y))=false → Q (.exit 2) ⟨upd (uv (upd (uv (uv (uv (uv (uv (uv (uv e0 61 (B false)) 60 (I j)) 59 (I (l.map CFun.enc).length)) 58 (.slice .none 8 (l.map CFun.enc))) 22 (x22)) 21 (x21)) 20 (x20)) 4 (some (.loc 4 0))) 3 (x3)) 1 (some (.loc 1 0)),upd (upd ((fun _=>none)) 4 (some ((Str g.name :: encArgs g.params :: ints g.vars :: g.body.cs)))) 1 (some ([SL 3 (c.decls.map Decl.enc),SL 8 (al.map CFun.enc)])),n,v,D,S⟩) (hR:(((l.drop i).map CFun.name).any fun y=>decide (g.name=y))=true → Q .ret ⟨uv e0 2 (B false),(fun _=>none),n,v,D,S⟩):EX (callL p) (.loop F32_l2) ⟨upd (uv (upd (uv (uv (uv (uv (uv (uv e0 60 (I i)) 59 (I (l.map CFun.enc).length)) 58 (.slice .none 8 (l.map CFun.enc))) 22 (x22)) 21 (x21)) 20 (x20)) 4 (some (.loc 4 0))) 3 (x3)) 1 (some (.loc 1 0)),upd (upd ((fun _=>none)) 4 (some ((Str g.name :: encArgs g.params :: ints g.vars :: g.body.cs)))) 1 (some ([SL 3 (c.decls.map Decl.enc),SL 8 (al.map CFun.enc)])),n,v,D,S⟩ Q:=by
 refine eloop (er (qp J (qb ?_)))
 rintro (_ | _) h1
 ·refine qn (kq10 J) (kq2 J) (eseq (ecF J (eexit (sqx ?_))))
  exact hX _ (by rw [List.drop_eq_nil_of_le (by simp at h1 ⊢;omega)];rfl)
 refine qn (kq10 J) (kq2 J) (eseq (ecT J (eskip (sqn (eseq (eblock (er ?_)))))))
 have hlt:i < l.length:=by simpa using h1
 obtain ⟨a,ha⟩:=get_of_lt hlt
 have hd:=drop_cons ha
 refine hia (y:=.agg (Str a.name :: encArgs a.params :: ints a.vars :: a.body.cs)) rfl rfl (by omega) (by simp [ha,Node.enc_eq,Br.enc_eq,CFun.enc_eq]) rfl (hlda rfl rfl (lc rfl (lc rfl (lc rfl (lc rfl (lc rfl (lc rfl (lc rfl (lc rfl (ln rfl))))))))) (hal (dc (dc (dc (dc (dc (dc (dc (dc (dc (dc (dc (dc dn rfl) rfl) rfl) rfl) rfl) rfl) rfl) rfl) rfl) rfl) rfl) rfl) (hstl rfl rfl rfl rfl (Nlb rfl) (lc rfl (lc rfl (lc rfl (lc rfl (lc rfl (lc rfl (lc rfl (lc rfl (ln rfl))))))))) (qk (kc rfl (kc rfl (kc rfl (kc rfl (kc rfl (kc rfl (kc rfl (kc rfl (kc rfl (kc rfl kn)))))))))) (kc rfl (kc rfl (kc rfl kn))) (sqn (eseq (ereg (qp rfl (qp rfl (qp rfl (qp rfl (qp rfl (qb ?_)))))))))))))
 rintro (_ | _) h2
 ·refine qn (kq10 J) (kq2 J) (ecF J (eskip (bqn (sqn (ereg (hadd J J (i64w (by omega)) (qp J (qk (kq9 J) (kq2 J) ?_))))))))
  exact heads_l2 c g l (i + 1) (by omega) hs (fun j h=>hX j (by rw [hd];simp_all)) (fun h=>hR (by rw [hd];simp_all))
 refine qn (kq10 J) (kq2 J) (ecT J (er (qp J (qn (kq1 J) kn (eret (bqr (sqr ?_)))))))
 exact hR (by rw [hd];simp_all)
termination_by l.length - i
decreasing_by all_goals omega
theorem heads_l1 (c:Core) (l:List CFun) (hpar:∀ g ∈ l,g.params.length ≤ 2 ^ 40) (i:Nat) (hi:i ≤ l.length) (hs:l.length ≤ 2 ^ 40) {n:Nat} {v:Nat → Bool} {D:List (Nat × List AV)} {S:Sg} {Q:Ex → Fr → Prop}
 (hX:∀ j,funsOk c.decls.length i ((l.take i).map CFun.name) (l.drop i)=true → Q (.exit 0) ⟨upd (uv (uv (uv (uv e0 23 (B false)) 22 (I j)) 21 (I (l.map CFun.enc).length)) 20 (.slice .none 8 (l.map CFun.enc))) 1 (some (.loc 1 0)),upd ((fun _=>none)) 1 (some ([SL 3 (c.decls.map Decl.enc),SL 8 (l.map CFun.enc)])),n,v,D,S⟩) (hR:funsOk c.decls.length i ((l.take i).map CFun.name) (l.drop i)=false → Q .ret ⟨uv e0 2 (B false),(fun _=>none),n,v,D,S⟩):EX (callL p) (.loop F32_l1) ⟨upd (uv (uv (uv e0 22 (I i)) 21 (I (l.map CFun.enc).length)) 20 (.slice .none 8 (l.map CFun.enc))) 1 (some (.loc 1 0)),upd ((fun _=>none)) 1 (some ([SL 3 (c.decls.map Decl.enc),SL 8 (l.map CFun.enc)])),n,v,D,S⟩ Q:=by
 refine eloop (er (qp J (qb ?_)))
 rintro (_ | _) h1
 refine qn (kq5 J) (kq1 J) (eseq (ecF J (eexit (sqx ?_))))
 exact hX _ (by rw [List.drop_eq_nil_of_le (by simp at h1 ⊢;omega)];rfl)
 refine qn (kq5 J) (kq1 J) (eseq (ecT J (eskip (sqn (eseq (eblock (er (qp J ?_))))))))
 have hlt:i < l.length:=by simpa using h1
 obtain ⟨a,ha⟩:=get_of_lt hlt
 have hd:=drop_cons ha
 refine hia (y:=.agg (Str a.name :: encArgs a.params :: ints a.vars :: a.body.cs)) rfl rfl (by omega) (by simp [ha,Node.enc_eq,Br.enc_eq,CFun.enc_eq]) rfl (hlda rfl rfl (lc rfl (lc rfl (lc rfl (lc rfl (lc rfl (lc rfl (lc rfl (lc rfl (ln rfl))))))))) (hal (dc (dc (dc (dc (dc (dc (dc (dc dn rfl) rfl) rfl) rfl) rfl) rfl) rfl) rfl) (qp rfl (hstl rfl rfl rfl rfl (Nlb rfl) (lc rfl (lc rfl (lc rfl (lc rfl (lc rfl (lc rfl (lc rfl (lc rfl (ln rfl))))))))) (qk (kc rfl (kc rfl (kc rfl (kc rfl (kc rfl (kc rfl kn)))))) (kc rfl (kc rfl kn)) (sqn (eseq (eseq (ereg (qp rfl (qp rfl (hcall rfl rfl rfl (Name_c _ _) ?_))))))))))))
 rintro _ _ ⟨rfl,rfl⟩
 refine qb ?_
 rintro (_ | _) h2
 refine pq2 J (zq4 J (pq2 J (zq7 J (pq2 J (zq7 J ?_)))))
 refine qp J (qn (kq7 J) (kq2 J) (ecT J (er (qp J (qn (kq1 J) kn (eret (sqr (bqr (sqr ?_)))))))))
 rotate_left
 refine pq2 J (qg J (qp J (qg J (qp J (qg J (qp J (qg J (qp J (qb ?_)))))))))
 rintro (_ | _) h3
 refine pq2 J (qg J (qp J (qg J (qp J (qg J (qp J (qg J (qp J (qg J (qp J (qg J (qp J (qg J (qp J (qb ?_)))))))))))))))
 rintro (_ | _) h4
 refine pq2 J (qg J (qp J (qg J (qp J (qg J (qp J (qg J (qp J (qg J (hcall J J J (cos_c _ a.params (hpar a (Lmg ha))) ?_))))))))))
 rintro _ _ ⟨rfl,rfl⟩
 rw [show a.params.map (fun a=>B a.co)=(a.params.map fun (q:Arg)=>q.co).map B from by simp]
 refine qg rfl (hcall rfl rfl rfl (distinct_c _ a.vars (a.params.map fun (q:Arg)=>q.co) (by simp at *;omega) (by have:=hpar a (Lmg ha);simp at *;omega)) ?_)
 rintro _ _ ⟨rfl,rfl⟩
 refine qb ?_
 rintro (_ | _) h5
 refine qg J (pq2 J (qn (kq7 J) (kq2 J) (ecT J (er (qp J (qn (kq1 J) kn (eret (sqr (bqr (sqr ?_))))))))))
 rotate_left
 refine qg rfl (qp rfl (qp rfl (qk (kc rfl (kc rfl (kc rfl (kc rfl (kc rfl (kc rfl (kc rfl kn))))))) (kc rfl (kc rfl kn)) (sqn (ecF rfl (eskip (sqn (eseq (eseq (ereg (qp rfl (qp rfl (qp rfl (hsl (a:=0) (b:=i) rfl rfl rfl (by simp;omega) (r:=(l.take i).map CFun.enc) (by simp) ?_))))))))))))))
 refine pq2 J (qn (kq9 J) (kq2 J) (eblock ?_))
 refine heads_l2 c a (l.take i) 0 (by omega) (by simp;omega) ?_ ?_
 intro j hn
 refine bqx (sqn (er (pq4 J (qn (kq8 J) (kq1 J) (eblock ?_)))))
 refine heads_l3 c i a.params 0 (by omega) (hpar a (Lmg ha)) ?_ ?_
 intro q ht
 refine bqx (bqn (sqn (ereg (hadd J J (i64w (by omega)) (qp J (qk (kq4 J) (kq1 J) ?_))))))
 have e:(l.take (i + 1)).map CFun.name=(l.take i).map CFun.name ++ [a.name]:=by simp [List.take_add_one,ha]
 have e2:funOk c.decls.length i ((l.take i).map CFun.name) a=true:=by
  clear hX hR
  simp_all [funOk,-List.all_eq_true,-List.all_eq_false,-List.any_eq_true,-List.any_eq_false] <;> omega
 have hy:funsOk c.decls.length i ((l.take i).map CFun.name) (l.drop i)=funsOk c.decls.length (i + 1) ((l.take (i + 1)).map CFun.name) (l.drop (i + 1)):=by
  rw [hd,e]
  simp only [funsOk,e2,Bta]
 exact heads_l1 c l hpar (i + 1) (by omega) hs (fun j h=>hX j (hy.trans h)) (fun h=>hR (hy.trans h))
 intro ht
 refine bqr (bqr (sqr ?_))
 rotate_left
 intro hn
 refine bqr (sqr (bqr (sqr ?_)))
 rotate_left
 refine pq2 J (zq7 J (qp J (qn (kq7 J) (kq2 J) (ecT J (er (qp J (qn (kq1 J) kn (eret (sqr (bqr (sqr ?_)))))))))))
 rotate_left
 refine pq2 J (zq7 J (pq2 J (zq7 J (qp J (qn (kq7 J) (kq2 J) (ecT J (er ?_)))))))
 refine qp J (qn (kq1 J) kn (eret (sqr (bqr (sqr ?_)))))
 rotate_left
 all_goals
  have e2:funOk c.decls.length i ((l.take i).map CFun.name) a=false:=by
   clear hX hR
   simp_all [funOk,-List.all_eq_true,-List.all_eq_false,-List.any_eq_true,-List.any_eq_false] <;> omega
  exact hR (by rw [hd];simp only [funsOk,e2,Bfa])
termination_by l.length - i
decreasing_by all_goals omega
theorem heads_c (s:Sg) (c:Core) (hc:CoreSz c):HC p N32_ [.agg (Core.cs c)] s (fun r s'=>r=[B (headsOk c)] ∧ s'=s):=by
 refine hcf J f32_ J ?_
 simp only [chainOf]
 refine er (hbox (dc dn J) J (lq2 J) (qp J (qn (kq1 J) (kq1 J) (eseq (er (pq4 J (qb ?_)))))))
 rintro (_ | _) h1
 refine qp J (qg J (qp J (qg J (qp J (qg J (qp J (qg J (qp J (qb ?_)))))))))
 rintro (_ | _) h2
 refine qp J (qn (kq2 J) (kq1 J) (ecF J (eskip (sqn (eseq (er (pq4 J (qn (kq4 J) (kq1 J) (eblock ?_)))))))))
 refine heads_l1 c c.funs hc.ga 0 (by omega) (by simp at *;omega) ?_ ?_
 intro j hj
 refine bqx (sqn (er (qp J (qn (kq1 J) kn (eret (fqr J ?_))))))
 rotate_left
 intro hj
 refine bqr (sqr (fqr J ?_))
 rotate_left
 refine qp J (qn (kq2 J) (kq1 J) (ecT J (er (qp J (qn (kq1 J) kn (eret (sqr (fqr J ?_))))))))
 rotate_left
 refine qp J (zq4 J (qp J (qn (kq2 J) (kq1 J) (ecT J (er (qp J (qn (kq1 J) kn (eret (sqr (fqr J ?_))))))))))
 rotate_left
 all_goals
  refine ⟨?_,J⟩
  first
  | (have e:headsOk c=true:=by
      unfold headsOk
      rw [show funsOk c.decls.length 0 [] c.funs=true from hj]
      simp at *
      omega
     rw [e];rfl)
  | (have e:headsOk c=false:=by
      unfold headsOk
      rw [show funsOk c.decls.length 0 [] c.funs=false from hj,Bool.and_false]
     rw [e];rfl)
  | (have e:headsOk c=false:=by
      unfold headsOk
      have:(decide (1 ≤ c.funs.length) && decide (c.funs.length ≤ 12))=false:=by
       simp at *
       omega
      rw [this,Bfa]
     rw [e];rfl)
end Go.Sim.Kd
namespace Go.Sim.Kd
open Go Go.Sim
def bodyScope (co:Bool) (g:CFun):Int → Bool:=pos (addAll (fun _=>0) (parOf co (g.params.zip g.vars)))
def bodyOk (c:Core) (g:CFun):Bool:=decide ((nAll g.body:Int) ≤ 30000) && decide (nDepth g.body ≤ 4000) && decide (sortOf g.body.op=2) && vN c.decls c.funs g.body (bodyScope false g) (bodyScope true g)
def coreOk (c:Core):Bool:=declsValid c.decls && headsOk c && c.funs.all (bodyOk c) && decide (szL (fun g=>nNodes g.body) c.funs ≤ 30000)
theorem Bn_zero:Bn (fun _=>0) 0:=fun _=>⟨Int.le_refl 0,Int.le_refl 0⟩
theorem bodyBn (co:Bool) (g:CFun) (h:g.params.length ≤ 6) (hz:g.body.sz ≤ 2 ^ 40):Bn (addAll (fun _=>0) (parOf co (g.params.zip g.vars))) (2 ^ 41 - g.body.sz):=by
 refine (addAll_bn _ Bn_zero).le ?_
 have:=parOf_len (co:=co) (g.params.zip g.vars)
 simp at this
 omega
theorem funsOk_mem {N:Nat}:∀ {gs:List CFun} {i:Nat} {names:List ByteArray},funsOk N i names gs=true → ∀ g ∈ gs,g.params.length ≤ 6 ∧ g.vars.length=g.params.length
 | [],_,_,_,g,hg=>by cases hg
 | x :: gs,i,names,h,g,hg=>by
   simp only [funsOk,funOk,Bae,Dte] at h
   cases hg with
   | head=>exact ⟨h.1.1.1.1.1.2,h.1.1.1.1.2⟩
   | tail _ hg=>exact funsOk_mem h.2 g hg
theorem headsOk_mem {c:Core} (h:headsOk c=true):∀ g ∈ c.funs,g.params.length ≤ 6 ∧ g.vars.length=g.params.length:=by
 simp only [headsOk,Bae] at h
 exact funsOk_mem h.2
theorem Is6_l (c:Core) (hc:CoreSz c) (hz:szL CFun.sz c.funs ≤ 2 ^ 40) (hH:headsOk c=true) (l:List CFun) (hl:∀ g ∈ l,g ∈ c.funs) (m:Nat) (i:Nat) (hi:i ≤ l.length) (hs:l.length ≤ 2 ^ 40) {n:Nat} {v:Nat → Bool} {D:List (Nat × List AV)} {S:Sg} {Q:Ex → Fr → Prop}
 (hm:m + szL (fun g=>nNodes g.body) (l.drop i) ≤ 2 ^ 50) (hX:∀ j S',(l.drop i).all (bodyOk c)=true → Ext S S' → Q (.exit 0) ⟨upd (uv (uv (uv (uv (uv e0 21 (B false)) 20 (I j)) 19 (I (l.map CFun.enc).length)) 18 (.slice .none 8 (l.map CFun.enc))) 3 (I ((m + szL (fun g=>nNodes g.body) (l.drop i):Nat):Int))) 1 (some (.loc 1 0)),upd ((fun _=>none)) 1 (some (Core.cs c)),n,v,D,S'⟩)
 (hR:(l.drop i).all (bodyOk c)=false → ∀ S',Ext S S' → Q .ret ⟨uv e0 2 (B false),(fun _=>none),n,v,D,S'⟩):EX (callL p) (.loop F10_l1) ⟨upd (uv (uv (uv (uv e0 20 (I i)) 19 (I (l.map CFun.enc).length)) 18 (.slice .none 8 (l.map CFun.enc))) 3 (I m)) 1 (some (.loc 1 0)),upd ((fun _=>none)) 1 (some (Core.cs c)),n,v,D,S⟩ Q:=by
 refine eloop (er (qp J (qb ?_)))
 rintro (_ | _) h1
 refine qn (kq6 J) (kq1 J) (eseq (ecF J (eexit (sqx ?_))))
 have h:=hX i S (by rw [List.drop_eq_nil_of_le (by simp at h1 ⊢;omega)];rfl) (Ext.refl _)
 rw [szL_end (by simp at h1;omega),Nat.add_zero] at h
 exact h
 refine qn (kq6 J) (kq1 J) (eseq (ecT J (eskip (sqn (eseq (eblock (er ?_)))))))
 have hlt:i < l.length:=by simpa using h1
 obtain ⟨a,ha⟩:=get_of_lt hlt
 have hd:=drop_cons ha
 refine hia (y:=.agg (Str a.name :: encArgs a.params :: ints a.vars :: a.body.cs)) rfl rfl (by omega) (by simp [ha,Node.enc_eq,Br.enc_eq,CFun.enc_eq]) rfl (hlda rfl rfl (lc rfl (lc rfl (lc rfl (lc rfl (lc rfl (lc rfl (lc rfl (lc rfl (ln rfl))))))))) (hal (dc (dc (dc (dc (dc (dc (dc (dc dn rfl) rfl) rfl) rfl) rfl) rfl) rfl) rfl) (hstl rfl rfl rfl rfl (Nlb rfl) (lc rfl (lc rfl (lc rfl (lc rfl (lc rfl (lc rfl (lc rfl (lc rfl (ln rfl))))))))) (qk (kc rfl (kc rfl (kc rfl (kc rfl (kc rfl (kc rfl kn)))))) (kc rfl (kc rfl kn)) (sqn (eseq (eseq (ereg ?_))))))))
 have hmem:=hl a (Lmg ha)
 have hpar:=headsOk_mem hH a hmem
 have hsz:a.body.sz ≤ 2 ^ 40:=by
  obtain ⟨q,hq⟩:=List.getElem?_of_mem hmem
  exact fun_sz hq hz
 have hnn:=nNodes_all a.body
 have hns:=nAll_sz a.body
 refine qp J (hlda J J (lq5 J) (hcall J J J (Fits_c _ a.body hsz 30000 (by omega) (by omega)) ?_))
 rintro _ _ ⟨rfl,hq⟩
 obtain rfl:=hq.symm
 refine qb ?_
 rintro (_ | _) h2
 refine qp J (qn (kq7 J) (kq2 J) (ecT J (er (qp J (qn (kq1 J) kn (eret (sqr (bqr (sqr ?_)))))))))
 rotate_left
 refine qp J (qn (kq7 J) (kq2 J) (ecF J (eskip (sqn (er (qp J (hlda J J (lq5 J) (hcall J J J (Size_c a.body hsz _) ?_))))))))
 rintro _ _ ⟨rfl,hq⟩
 obtain rfl:=hq.symm
 refine qp rfl (qp rfl (qp rfl (qp rfl (qp rfl (qk (kc rfl (kc rfl (kc rfl (kc rfl (kc rfl (kc rfl (kc rfl (kc rfl kn)))))))) (kc rfl (kc rfl kn)) (sqn (eseq (ereg (qp rfl (qp rfl (hadd rfl rfl (i64w (by have this:szL (fun g=>nNodes g.body) (l.drop i)=nNodes a.body + szL (fun g=>nNodes g.body) (l.drop (i + 1)):=szL_drop (f:=fun g=>nNodes g.body) ha;omega)) (qp rfl (qk (kc rfl (kc rfl (kc rfl (kc rfl (kc rfl (kc rfl (kc rfl kn))))))) (kc rfl (kc rfl kn)) (sqn (eseq (ereg (qp rfl (qp rfl (qb ?_)))))))))))))))))))
 rintro (_ | _) h3
 refine qp J (qg J (qp J (qg J (qp J (qg J (qp J (qg J (hcall J J J (Kind_c _ _) ?_))))))))
 rintro _ _ ⟨rfl,hq⟩
 obtain rfl:=hq.symm
 refine qg J (qp J (qb ?_))
 rintro (_ | _) h4
 refine pq2 J (qg J (hlda J J (lq2 J) (qg J (hlda J J (lq8 J) (qg J (hcall J J J (Params_c _ a hpar.2.symm (by omega)) ?_))))))
 rintro _ _ ⟨rfl,hq⟩
 obtain rfl:=hq.symm
 refine qg rfl (qp rfl (qg rfl (qp rfl (qg rfl (hcall rfl rfl rfl (NewScope_c _ _ _ (by have:=parOf_len (co:=false) (a.params.zip a.vars);simp at this;omega) (by have:=parOf_len (co:=true) (a.params.zip a.vars);simp at this;omega)) ?_)))))
 rintro _ S1 ⟨o,ix,ia,rfl,hS1,hE1,n1,n2,n3⟩
 refine qg J (qp J (qg J (hlda J J (lq5 J) (qg J (hcall J J J (Valid_c c hc a.body hsz _ o ix ia _ _ hS1 (bodyBn false a hpar.1 hsz) (bodyBn true a hpar.1 hsz)) ?_)))))
 rintro _ S2 ⟨rfl,hS2,hc2⟩
 refine qb ?_
 rintro (_ | _) h5
 refine qg J (pq2 J (qn (kq6 J) (kq1 J) (ecT J (er (qp J (qn (kq1 J) kn (eret (bqr (sqr ?_)))))))))
 rotate_left
 refine qg J (pq2 J (qn (kq6 J) (kq1 J) (ecF J (eskip (bqn (sqn (ereg (hadd J J (i64w (by omega)) (qp J (qk (kq5 J) (kq1 J) ?_))))))))))
 have hv:bodyOk c a=true:=by
  have e:vN c.decls c.funs a.body (bodyScope false a) (bodyScope true a)=true:=by assumption
  unfold bodyOk
  rw [e]
  clear hX hR
  simp at *
  omega
 have hE:=((hE1.chg (X:=IXA ix ia)).trans hc2).ext fun i h=>by rcases h with h | h <;> omega
 have es:szL (fun g=>nNodes g.body) (l.drop i)=nNodes a.body + szL (fun g=>nNodes g.body) (l.drop (i + 1)):=szL_drop (f:=fun g=>nNodes g.body) ha
 exact Is6_l c hc hz hH l hl (m + nNodes a.body) (i + 1) (by omega) hs (by omega) (fun j S' h x=>by
  have:=hX j S' (by rw [hd,List.all_cons,hv,h];rfl) (hE.trans x)
  rw [es,← Nat.add_assoc] at this
  exact this) (fun h S' x=>hR (by rw [hd,List.all_cons,h,Bool.and_false]) S' (hE.trans x))
 refine pq2 J (zq10 J (qp J (qn (kq6 J) (kq1 J) (ecT J (er (qp J (qn (kq1 J) kn (eret (bqr (sqr ?_))))))))))
 rotate_left
 refine qp J (zq5 J (pq2 J (zq10 J (qp J (qn (kq6 J) (kq1 J) (ecT J (er ?_)))))))
 refine qp J (qn (kq1 J) kn (eret (bqr (sqr ?_))))
 rotate_left
 all_goals
  first
  | (have hv:bodyOk c a=false:=by
      have e:vN c.decls c.funs a.body (bodyScope false a) (bodyScope true a)=false:=by assumption
      unfold bodyOk;rw [e,Bool.and_false]
     exact hR (by rw [hd,List.all_cons,hv,Bfa]) _ (((hE1.chg (X:=IXA ix ia)).trans hc2).ext fun i h=>by rcases h with h | h <;> omega))
  | (have hv:bodyOk c a=false:=by
      clear hX hR
      simp_all [bodyOk] <;> omega
     exact hR (by rw [hd,List.all_cons,hv,Bfa]) _ (Ext.refl _))
termination_by l.length - i
decreasing_by all_goals omega
theorem Is6_c (s:Sg) (c:Core) (hc:CoreSz c) (hz:szL CFun.sz c.funs ≤ 2 ^ 40) (hl2:c.funs.length ≤ 2 ^ 40):HC p N10_ [.agg (Core.cs c)] s (fun r s'=>r=[B (coreOk c)] ∧ Ext s s'):=by
 have hsum:0 + szL (fun g=>nNodes g.body) (c.funs.drop 0) ≤ 2 ^ 50:=by
  have:=szL_le (l:=c.funs) (f:=fun g=>nNodes g.body) (g:=CFun.sz) (fun g _=>by
   have h1:=nNodes_all g.body
   have h2:=nAll_sz g.body
   unfold CFun.sz
   omega)
  rw [List.drop_zero]
  omega
 refine hcf J f10_ J ?_
 simp only [chainOf]
 refine er (hbox (dc dn J) J (lq2 J) (qp J (qn (kq1 J) (kq1 J) (eseq (er (pq2 J (hcall J J J (Is01_c _ c.decls hc.dl) ?_)))))))
 rintro _ _ ⟨rfl,hq⟩
 obtain rfl:=hq.symm
 refine qb ?_
 rintro (_ | _) h1
 refine pq2 J (zq3 J (qp J (qn (kq2 J) (kq1 J) (ecT J (er (qp J (qn (kq1 J) kn (eret (sqr (fqr J ?_))))))))))
 rotate_left
 refine pq2 J (qg J (hlda J J (lq2 J) (qg J (hcall J J J (heads_c _ c hc) ?_))))
 rintro _ _ ⟨rfl,hq⟩
 obtain rfl:=hq.symm
 refine qb ?_
 rintro (_ | _) h2
 refine qg J (pq2 J (qn (kq2 J) (kq1 J) (ecT J (er (qp J (qn (kq1 J) kn (eret (sqr (fqr J ?_)))))))))
 rotate_left
 refine qg J (pq2 J (qn (kq2 J) (kq1 J) (ecF J (eskip (sqn (er (qp J (qn (kq2 J) (kq1 J) (eseq (er (pq4 J (qn (kq5 J) (kq1 J) (eblock ?_)))))))))))))
 refine Is6_l c hc hz ‹_› c.funs (fun g h=>h) 0 0 (by omega) hl2 hsum ?_ ?_
 intro j S1 hj hE
 refine bqx (sqn (er (pq3 J (qn (kq1 J) kn (eret (fqr J ?_))))))
 have e1:coreOk c=decide (szL (fun g=>nNodes g.body) c.funs ≤ 30000):=by
  have a1:declsValid c.decls=true:=by assumption
  have a2:headsOk c=true:=by assumption
  have a3:c.funs.all (bodyOk c)=true:=hj
  unfold coreOk
  rw [a1,a2,a3]
  simp
 refine ⟨?_,hE⟩
 rw [e1]
 refine congrArg (fun b=>[B b]) ?_
 rw [Bool.eq_iff_iff]
 simp
 omega
 intro hj S1 hE
 refine bqr (sqr (fqr J ?_))
 rotate_left
 all_goals
  first
  | (have a1:declsValid c.decls=false:=by assumption
     exact ⟨by unfold coreOk;rw [a1];rfl,Ext.refl _⟩)
  | (have a1:headsOk c=false:=by assumption
     exact ⟨by unfold coreOk;rw [a1,Bool.and_false];rfl,Ext.refl _⟩)
  | (have a3:c.funs.all (bodyOk c)=false:=hj
     exact ⟨by unfold coreOk;rw [a3,Bool.and_false];rfl,hE⟩)
end Go.Sim.Kd
namespace Go.Sim.Kd
open Go Go.Sim
def keyP (q:Int × Bool):Int × Int:=(sideOf q.2,q.1)
theorem keyP_inj {a b:Int × Bool} (h:keyP a=keyP b):a=b:=by
 obtain ⟨x,c⟩:=a
 obtain ⟨y,d⟩:=b
 simp only [keyP,Pie] at h
 obtain ⟨h1,rfl⟩:=h
 cases c <;> cases d <;> simp_all [sideOf]
theorem keyP_any (l:List (Int × Bool)) (x:Int × Bool):((l.map keyP).any fun y=>decide (y=keyP x))=l.any fun y=>decide (y=x):=by
 rw [List.any_map]
 congr 1
 funext y
 rw [Bool.eq_iff_iff]
 simp only [Function.comp_apply,Dte]
 exact ⟨keyP_inj,fun e=>by rw [e]⟩
theorem binds_l {pm:Nat} (vars:List Int) (cos:List Bool) (hl:vars.length=cos.length) (i:Nat) (hi:i ≤ vars.length) (hs:vars.length ≤ 2 ^ 40) {n:Nat} {v:Nat → Bool} {D:List (Nat × List AV)} {S:Sg} {Q:Ex → Fr → Prop}
 (hM:S.ob pm=some (.map (.int2 .i64) (setP (((vars.zip cos).take i).map keyP)))) (hX:∀ j S',distinctOk ((vars.zip cos).take i) ((vars.zip cos).drop i)=true → Chg (·=pm) S S' → Q (.exit 0) ⟨uv (uv (uv (uv (uv (uv e0 18 (B false)) 17 (I j)) 16 (I (vars.map I).length)) 15 (.slice .none 1 (vars.map I))) 5 (.map pm)) 1 (bools cos),(fun _=>none),n,v,D,S'⟩)
 (hR:distinctOk ((vars.zip cos).take i) ((vars.zip cos).drop i)=false → ∀ S',Chg (·=pm) S S' → Q .ret ⟨uv e0 4 (B false),(fun _=>none),n,v,D,S'⟩):EX (callL p) (.loop F58_l1) ⟨uv (uv (uv (uv (uv e0 17 (I i)) 16 (I (vars.map I).length)) 15 (.slice .none 1 (vars.map I))) 5 (.map pm)) 1 (bools cos),(fun _=>none),n,v,D,S⟩ Q:=by
 refine eloop (er (qp J (qb ?_)))
 rintro (_ | _) h1
 refine qn (kq6 J) kn (eseq (ecF J (eexit (sqx ?_))))
 exact hX _ _ (by rw [List.drop_eq_nil_of_le (by simp at h1 ⊢;omega)];rfl) (Chg.refl _)
 refine qn (kq6 J) kn (eseq (ecT J (eskip (sqn (eseq (eblock (er (qp J ?_))))))))
 have hlt:i < vars.length:=by simpa using h1
 obtain ⟨a,ha⟩:=get_of_lt hlt
 have hd:=drop_cons ha
 refine hia (y:=I a) rfl rfl (by omega) (by simp [ha]) rfl (qp rfl (qp rfl (qp rfl (qk (kc rfl (kc rfl (kc rfl (kc rfl (kc rfl (kc rfl (kc rfl kn))))))) kn (sqn (eseq (ereg (qp rfl (qp rfl ?_)))))))))
 obtain ⟨c,hc⟩:=get_of_lt (l:=cos) (i:=i) (by omega)
 have hz:=drop_cons (zip_at ha hc)
 refine hia (y:=B c) rfl rfl (by omega) (by simp [hc]) rfl (qp rfl (hcall rfl rfl rfl (cside_c _ c) ?_))
 rintro _ _ ⟨rfl,hq⟩
 obtain rfl:=hq.symm
 refine qp J (hbuild J J (lq2 J) (hal (dq14 J) (hstl J J J J (Nlb J) (lq2 J) (qn (kq7 J) (kq1 J) (eseq (er (qp J (hcall J J J (number_c _ a) ?_))))))))
 rintro _ _ ⟨rfl,hq⟩
 obtain rfl:=hq.symm
 refine qb ?_
 rintro (_ | _) h2
 refine pq2 J (zq3 J (qp J (qn (kq7 J) (kq1 J) (ecT J (er (qp J (qn (kq1 J) kn (eret (sqr (bqr (sqr ?_)))))))))))
 rotate_left
 refine qp rfl (qp rfl (qg rfl (qp rfl (qg rfl (hlda rfl rfl (lc rfl (lc rfl (ln rfl))) (qg rfl (hlk (key:=pairV (keyP (a,c))) rfl rfl rfl hM ?_)))))))
 rw [setP_get,keyP_any]
 refine qb ?_
 rintro (_ | _) h3
 refine qp rfl (qk (kc rfl (kc rfl (kc rfl (kc rfl (kc rfl (kc rfl (kc rfl kn))))))) (kc rfl kn) (sqn (ecF rfl (eskip (sqn (ereg (qp rfl (hlda rfl rfl (lc rfl (lc rfl (ln rfl))) (hmu (key:=pairV (keyP (a,c))) rfl rfl rfl rfl hM ?_)))))))))
 rw [show (AV.lit (.bool true)).er=B true from rfl,setP_add]
 refine qk (kq5 J) kn (bqn (sqn (ereg (hadd J J (i64w (by omega)) (qp J (qk (kq5 J) kn ?_))))))
 have ht:(vars.zip cos).take (i + 1)=(vars.zip cos).take i ++ [(a,c)]:=by simp [List.take_add_one,zip_at ha hc]
 have hnum:numOk a=true:=by assumption
 have hn:(((vars.zip cos).take i).any fun q=>decide (q=(a,c)))=false:=by assumption
 have hy:distinctOk ((vars.zip cos).take i) ((vars.zip cos).drop i)=distinctOk ((vars.zip cos).take (i + 1)) ((vars.zip cos).drop (i + 1)):=by
  rw [hz,ht]
  simp only [distinctOk,hnum,hn,Bta,Bool.not_false]
 have hcc:Chg (·=pm) S (S.set pm (.map (.int2 .i64) (setP (((vars.zip cos).take i).map keyP ++ [keyP (a,c)])))):=(Chg.refl S).set fun _=>rfl
 exact binds_l vars cos hl (i + 1) (by omega) hs (by rw [ht,List.map_append];exact set_ob) (fun j S' h cc=>hX j S' (hy.trans h) (hcc.trans cc)) (fun h S' cc=>hR (hy.trans h) S' (hcc.trans cc))
 refine qp J (qn (kq7 J) (kq1 J) (ecT J (er (qp J (qn (kq1 J) kn (eret (sqr (bqr (sqr ?_)))))))))
 rotate_left
 all_goals
  first
  | (have hnum:numOk a=false:=by assumption
     exact hR (by rw [hz];simp only [distinctOk,hnum,Bfa]) _ (Chg.refl _))
  | (have hn:(((vars.zip cos).take i).any fun q=>decide (q=(a,c)))=true:=by assumption
     exact hR (by rw [hz];simp only [distinctOk,hn,Bool.not_true,Bool.and_false,Bfa]) _ (Chg.refl _))
termination_by vars.length - i
decreasing_by all_goals omega
theorem binds_c (s:Sg) (vars:List Int) (cos:List Bool) (hzz:vars.length ≤ 2 ^ 40):HC p N58_ [ints vars,bools cos] s (fun r s'=>r=[B (decide (vars.length=cos.length) && distinctOk [] (vars.zip cos))] ∧ Ext s s'):=by
 refine hcf J f58_ J ?_
 simp only [chainOf]
 refine er (qp J (qn (kq2 J) kn (eseq (er (pq5 J (qb ?_))))))
 rintro (_ | _) h1
 refine qn (kq3 J) kn (ecF J (eskip (sqn (er (hmkm (qp J (qn (kq3 J) kn (eseq (er (pq3 J (qn (kq5 J) kn (eblock ?_))))))))))))
 refine binds_l vars cos (by simp at h1;omega) 0 (by omega) hzz (by rw [List.take_zero,List.map_nil,setP_nil];exact new_ob) ?_ ?_
 intro j S1 hj hc
 refine bqx (sqn (er (qp J (qn (kq1 J) kn (eret (fqr J ?_))))))
 rotate_left
 intro hj S1 hc
 refine bqr (sqr (fqr J ?_))
 rotate_left
 refine qn (kq3 J) kn (ecT J (er (qp J (qn (kq1 J) kn (eret (sqr (fqr J ?_)))))))
 rotate_left
 all_goals
  first
  | (have e:decide (vars.length=cos.length)=false:=by simp at h1 ⊢;omega
     exact ⟨by rw [e];rfl,Ext.refl _⟩)
  | (have e:decide (vars.length=cos.length)=true:=by simp at h1 ⊢;omega
     have hx:=hj
     simp only [List.take_zero,List.drop_zero] at hx
     exact ⟨by rw [e,hx];rfl,(((Chg.refl s).new).trans (hc.mono fun i _ h=>by rw [h];exact Nat.le_refl _)).ext (X:=fun i=>s.nx ≤ i) fun i h=>h⟩)
end Go.Sim.Kd
namespace Go.Sim.Kd
open Go Go.Sim
def setM (X:Int → Bool):Value → Option AV
 | .int .i64 n=>if X n=true then some (B true) else none
 | _=>none
theorem setM_add (X:Int → Bool) (v:Int):mset (setM X) (.int .i64 v) (some (B true))=setM (addV X v):=by
 funext k
 unfold mset
 by_cases h:k=.int .i64 v
 ·subst h;simp [setM,addV]
 rw [if_neg h]
 cases k <;> try rfl
 rename_i kd n
 cases kd <;> try rfl
 have hne:n ≠ v:=fun e=>h (by rw [e])
 simp [setM,addV,hne]
theorem setM_get (X:Int → Bool) (v:Int):(setM X (.int .i64 v)).getD (B false)=B (X v):=by
 simp only [setM]
 cases X v <;> rfl
structure PS (i0 i1:Nat) (X A:Int → Bool) (S:Sg):Prop where
 h0:S.ob i0=some (.map (.int .i64) (setM X))
 h1:S.ob i1=some (.map (.int .i64) (setM A))
 l0:i0 < S.nx
 l1:i1 < S.nx
 ne:i0 ≠ i1
theorem PS.add0 {i0 i1:Nat} {X A:Int → Bool} {S:Sg} (h:PS i0 i1 X A S) (v:Int):PS i0 i1 (addV X v) A (S.set i0 (.map (.int .i64) (setM (addV X v)))) :=
 ⟨set_ob,by rw [set_ne (Ne.symm h.ne)];exact h.h1,h.l0,h.l1,h.ne⟩
theorem PS.add1 {i0 i1:Nat} {X A:Int → Bool} {S:Sg} (h:PS i0 i1 X A S) (v:Int):PS i0 i1 X (addV A v) (S.set i1 (.map (.int .i64) (setM (addV A v)))) :=
 ⟨by rw [set_ne h.ne];exact h.h0,set_ob,h.l0,h.l1,h.ne⟩
theorem PS.keep {i0 i1:Nat} {X A:Int → Bool} {S S':Sg} {Y:Nat → Prop} (h:PS i0 i1 X A S) (k:Chg Y S S') (h0:¬ Y i0) (h1:¬ Y i1):PS i0 i1 X A S' :=
 ⟨(k.ob i0 h.l0 h0).trans h.h0,(k.ob i1 h.l1 h1).trans h.h1,Nat.lt_of_lt_of_le h.l0 k.nx,Nat.lt_of_lt_of_le h.l1 k.nx,h.ne⟩
def setL (X:Int → Bool):List Int → (Int → Bool)
 | []=>X
 | v :: vs=>setL (addV X v) vs
theorem cNS_l1 {i0 i1:Nat} (l:List Int) (X A:Int → Bool) (i:Nat) (hi:i ≤ l.length) (hs:l.length ≤ 2 ^ 40) {x1:AV} {n:Nat} {v:Nat → Bool} {D:List (Nat × List AV)} {S:Sg} {Q:Ex → Fr → Prop}
 (hS:PS i0 i1 X A S) (hX:∀ j S',PS i0 i1 (setL X (l.drop i)) A S' → Chg (IXA i0 i1) S S' → Q (.exit 0) ⟨uv (upd (upd (uv (uv (uv (uv e0 16 (B false)) 15 (I j)) 14 (I (l.map I).length)) 13 (.slice .none 1 (l.map I))) 5 (some (.loc 5 0))) 4 (some (.loc 4 0))) 1 (x1),upd (upd ((fun _=>none)) 5 (some ([.map i0,.map i1]))) 4 (some ([.lit (.map none),.lit (.map none)])),n,v,D,S'⟩):EX (callL p) (.loop F59_l1) ⟨uv (upd (upd (uv (uv (uv e0 15 (I i)) 14 (I (l.map I).length)) 13 (.slice .none 1 (l.map I))) 5 (some (.loc 5 0))) 4 (some (.loc 4 0))) 1 (x1),upd (upd ((fun _=>none)) 5 (some ([.map i0,.map i1]))) 4 (some ([.lit (.map none),.lit (.map none)])),n,v,D,S⟩ Q:=by
 refine eloop (er (qp J (qb ?_)))
 rintro (_ | _) h1
 ·refine qn (kq7 J) (kq2 J) (eseq (ecF J (eexit (sqx ?_))))
  exact hX _ _ (by rw [List.drop_eq_nil_of_le (by simp at h1 ⊢;omega)];exact hS) (Chg.refl _)
 refine qn (kq7 J) (kq2 J) (eseq (ecT J (eskip (sqn (eseq (eblock (er ?_)))))))
 have hlt:i < l.length:=by simpa using h1
 obtain ⟨a,ha⟩:=get_of_lt hlt
 have hd:=drop_cons ha
 refine hia (y:=I a) rfl rfl (by omega) (by simp [ha]) rfl (qp rfl (qp rfl (qk (kc rfl (kc rfl (kc rfl (kc rfl (kc rfl (kc rfl (kc rfl kn))))))) (kc rfl (kc rfl kn)) (sqn (ereg (qp rfl (qp rfl (qp rfl (hmu rfl rfl rfl rfl hS.h0 ?_)))))))))
 rw [show (AV.lit (.bool true)).er=B true from rfl,setM_add]
 refine qk (kq6 J) (kq2 J) (bqn (sqn (ereg (hadd J J (i64w (by omega)) (qp J (qk (kq6 J) (kq2 J) ?_))))))
 have hS1:=hS.add0 a
 have hc1:Chg (IXA i0 i1) S _:=(Chg.refl S).set (i:=i0) (o:=.map (.int .i64) (setM (addV X a))) fun _=>.inl rfl
 exact cNS_l1 l _ A (i + 1) (by omega) hs hS1 (fun j S2 h c=>hX j S2 (by rw [hd];exact h) (hc1.trans c))
termination_by l.length - i
decreasing_by all_goals omega
theorem cNS_l2 {i0 i1:Nat} (l:List Int) (X A:Int → Bool) (i:Nat) (hi:i ≤ l.length) (hs:l.length ≤ 2 ^ 40) {n:Nat} {v:Nat → Bool} {D:List (Nat × List AV)} {S:Sg} {Q:Ex → Fr → Prop}
 (hS:PS i0 i1 X A S) (hX:∀ j S',PS i0 i1 X (setL A (l.drop i)) S' → Chg (IXA i0 i1) S S' → Q (.exit 2) ⟨upd (upd (uv (uv (uv (uv e0 26 (B false)) 25 (I j)) 24 (I (l.map I).length)) 23 (.slice .none 1 (l.map I))) 5 (some (.loc 5 0))) 4 (some (.loc 4 0)),upd (upd ((fun _=>none)) 5 (some ([.map i0,.map i1]))) 4 (some ([.lit (.map none),.lit (.map none)])),n,v,D,S'⟩):EX (callL p) (.loop F59_l2) ⟨upd (upd (uv (uv (uv e0 25 (I i)) 24 (I (l.map I).length)) 23 (.slice .none 1 (l.map I))) 5 (some (.loc 5 0))) 4 (some (.loc 4 0)),upd (upd ((fun _=>none)) 5 (some ([.map i0,.map i1]))) 4 (some ([.lit (.map none),.lit (.map none)])),n,v,D,S⟩ Q:=by
 refine eloop (er (qp J (qb ?_)))
 rintro (_ | _) h1
 ·refine qn (kq6 J) (kq2 J) (eseq (ecF J (eexit (sqx ?_))))
  exact hX _ _ (by rw [List.drop_eq_nil_of_le (by simp at h1 ⊢;omega)];exact hS) (Chg.refl _)
 refine qn (kq6 J) (kq2 J) (eseq (ecT J (eskip (sqn (eseq (eblock (er ?_)))))))
 have hlt:i < l.length:=by simpa using h1
 obtain ⟨a,ha⟩:=get_of_lt hlt
 have hd:=drop_cons ha
 refine hia (y:=I a) rfl rfl (by omega) (by simp [ha]) rfl (qp rfl (qp rfl (qk (kc rfl (kc rfl (kc rfl (kc rfl (kc rfl (kc rfl kn)))))) (kc rfl (kc rfl kn)) (sqn (ereg (qp rfl (qp rfl (qp rfl (hmu rfl rfl rfl rfl hS.h1 ?_)))))))))
 rw [show (AV.lit (.bool true)).er=B true from rfl,setM_add]
 refine qk (kq5 J) (kq2 J) (bqn (sqn (ereg (hadd J J (i64w (by omega)) (qp J (qk (kq5 J) (kq2 J) ?_))))))
 have hS1:=hS.add1 a
 have hc1:Chg (IXA i0 i1) S _:=(Chg.refl S).set (i:=i1) (o:=.map (.int .i64) (setM (addV A a))) fun _=>.inr rfl
 exact cNS_l2 l X _ (i + 1) (by omega) hs hS1 (fun j S2 h c=>hX j S2 (by rw [hd];exact h) (hc1.trans c))
termination_by l.length - i
decreasing_by all_goals omega
theorem setM_nil:setM (fun _=>false)=fun _=>none:=by
 funext k
 cases k <;> try rfl
 rename_i kd n
 cases kd <;> rfl
theorem ps_init (s:Sg):PS s.nx (s.nx + 1) (fun _=>false) (fun _=>false) ((s.new (.map (.int .i64) fun _=>none)).new (.map (.int .i64) fun _=>none)):=by
 refine ⟨?_,?_,?_,?_,?_⟩
 ·rw [setM_nil,new_lt (by simp only [Sg.new];omega)];exact new_ob
 ·rw [setM_nil];exact new_ob
 all_goals first | (simp only [Sg.new];omega) | omega
theorem cNewScope_c (s:Sg) (xs ys:List Int) (h1:xs.length ≤ 2 ^ 40) (h2:ys.length ≤ 2 ^ 40):HC p N59_ [ints xs,ints ys] s (fun r s'=>∃ i0 i1,r=[.agg [.map i0,.map i1]] ∧ PS i0 i1 (setL (fun _=>false) xs) (setL (fun _=>false) ys) s' ∧ Ext s s' ∧ s.nx ≤ i0 ∧ s.nx ≤ i1):=by
 refine hcf J f59_ J ?_
 simp only [chainOf]
 refine er (hal (dq2 J) (qn (kq3 J) (kq1 J) (er (hmkm (hmkm (hbuild J J (lq2 J) (hal (dq6 J) (hstl J J J J (Nlb J) (lq2 J) (qn (kq4 J) (kq2 J) (eseq (er (pq3 J (qn (kq6 J) (kq2 J) (eblock (cNS_l1 xs _ _ 0 (by omega) h1 (ps_init s) ?_)))))))))))))))
 intro j S1 hS1 hc1
 refine bqx (sqn (eseq (er (pq3 J (qn (kq5 J) (kq2 J) (eblock (cNS_l2 ys _ _ 0 (by omega) h2 hS1 ?_)))))))
 intro q S2 hS2 hc2
 refine bqx (sqn (er (hlda J J (lq2 J) (hstl J J J J (Nlb J) (lq2 J) (qn (kq1 J) (kq1 J) (eret (fqr J ?_)))))))
 have en:(s.new (.map (.int .i64) fun _=>none)).nx=s.nx + 1:=rfl
 exact ⟨_,_,rfl,hS2,((Chg.new (Chg.new (Chg.refl s))).trans (hc1.trans hc2)).ext fun i h=>by rcases h with h | h <;> omega,Nat.le_refl _,by omega⟩
end Go.Sim.Kd
namespace Go.Sim.Kd
open Go Go.Sim
theorem addV_old {X:Int → Bool} {v:Int} (h:X v=true):addV X v=X:=by
 funext n
 unfold addV
 by_cases hn:n=v
 ·subst hn;simp [h]
 simp [hn]
def newP (X A:Int → Bool):List Int → List Bool → List (Bool × Int)
 | [],_=>[]
 | v :: vs,cs=>(if (if cs.headD false=true then A else X) v=true then [] else [(cs.headD false,v)]) ++ newP (if cs.headD false=false then addV X v else X) (if cs.headD false=true then addV A v else A) vs cs.tail
def delV (X:Int → Bool) (v:Int):Int → Bool:=fun n=>!decide (n=v) && X n
theorem setM_delV (X:Int → Bool) (v:Int):mset (setM X) (.int .i64 v) none=setM (delV X v):=by
 funext k
 unfold mset
 by_cases h:k=.int .i64 v
 ·subst h;simp [setM,delV]
 rw [if_neg h]
 cases k <;> try rfl
 rename_i kd n
 cases kd <;> try rfl
 have hne:n ≠ v:=fun e=>h (by rw [e])
 simp [setM,delV,hne]
abbrev encP (q:Bool × Int):AV:=.agg [I (sideOf q.1),I q.2]
def CanG (g0:Nat) (o:Own) (S:Sg):Prop:=o=.full ∨ ∃ g,o=.gt g ∧ S.gl g=true ∧ g < S.gn ∧ g0 ≤ g
structure EN (g0 bs ba i0 i1:Nat) (X A:Int → Bool) (ad:List (Bool × Int)) (S:Sg):Prop where
 hB:S.ob bs=some (.row [.map i0,.map i1])
 hA:∃ o,S.ob ba=some (.row [.slice o 2 (ad.map encP)]) ∧ CanG g0 o S
 hS:PS i0 i1 X A S
 bl:bs < S.nx
 al:ba < S.nx
 ba':bs ≠ ba
 b0:bs ≠ i0
 b1:bs ≠ i1
 a0:ba ≠ i0
 a1:ba ≠ i1
theorem PS.at {i0 i1:Nat} {X A:Int → Bool} {S:Sg} (h:PS i0 i1 X A S) (c:Bool):S.ob (if c then i1 else i0)=some (.map (.int .i64) (setM (if c then A else X))):=by
 cases c
 ·exact h.h0
 exact h.h1
section
variable {c:Caller} {E:Nat → Option TV} {L:Nat → Option (List AV)} {n:Nat} {v:Nat → Bool} {D:List (Nat × List AV)} {S:Sg} {l:List AIns} {Q:Fr → Prop}
theorem hapO {d sz by_ g0:Nat} {s x:AO} {o o':Own} {xs ys r:List AV} (h1:evV E s=some (.slice o sz xs)) (h2:evV E x=some (.slice o' sz ys)) (hc:CanG g0 o S) (hne:ys ≠ []) (hlen:(xs.length + ys.length) * by_ ≤ 2 ^ 47) (hr:xs ++ ys=r)
 (k:∀ v' S',v' n=true → (∀ j,j ≠ n → v' j=v j) → S'.ob=S.ob → S'.nx=S.nx → S'.gn=S.gn → (∀ g,g < g0 → S'.gl g=S.gl g) → S'.Q=S.Q → HL c l ⟨upd E d (some (.val (.slice (.tip n) sz r))),L,n + 1,v',D,S'⟩ Q):HL c (⟨some d,none,.app sz by_ s x⟩ :: l) ⟨E,L,n,v,D,S⟩ Q:=by
 rcases hc with rfl | ⟨g,rfl,hg,_,hg0⟩
 ·subst hr
  exact hapF h1 h2 hne hlen fun v' a b=>k v' S a b rfl rfl rfl (fun _ _=>rfl) rfl
 exact hapG h1 h2 hg hne hlen hr fun v' S' a b e1 e2 e3 e4 e5=>k v' S' a b e1 e2 e3 (fun j hj=>e4 j (by omega)) e5
end
theorem EN.old {g0 bs ba i0 i1:Nat} {X A:Int → Bool} {ad:List (Bool × Int)} {S:Sg} (h:EN g0 bs ba i0 i1 X A ad S) {c:Bool} {a:Int} (e:(if c then A else X) a=true) :
 EN g0 bs ba i0 i1 (if c=false then addV X a else X) (if c=true then addV A a else A) (ad ++ (if (if c then A else X) a=true then [] else [(c,a)])) S:=by
 rw [if_pos e,List.append_nil]
 cases c with
 | true=>rw [if_pos rfl,if_neg (by simp),addV_old (by simpa using e)];exact h
 | false=>rw [if_pos rfl,if_neg (by simp),addV_old (by simpa using e)];exact h
theorem newP_cons (X A:Int → Bool) (v:Int) (vs:List Int) (cs:List Bool) (c:Bool) (h:cs.headD false=c):newP X A (v :: vs) cs=(if (if c then A else X) v=true then [] else [(c,v)]) ++ newP (if c=false then addV X v else X) (if c=true then addV A v else A) vs cs.tail:=by
 rw [newP,h]
theorem addsV_cons (w:Bool) (X:Int → Bool) (v:Int) (vs:List Int) (cs:List Bool) (c:Bool) (h:cs.headD false=c):addsV w X (v :: vs) cs=addsV w (if c=w then addV X v else X) vs cs.tail:=by rw [addsV,h]
theorem EN.fin {g0 bs ba i0 i1:Nat} {X A:Int → Bool} {ad:List (Bool × Int)} {S:Sg} {vars:List Int} {cos:List Bool} {i:Nat} {a:Int} {c:Bool} (hd:vars.drop i=a :: vars.drop (i + 1)) (hcd:(cos.drop i).headD false=c)
 (h:EN g0 bs ba i0 i1 (addsV false (if c=false then addV X a else X) (vars.drop (i + 1)) (cos.drop (i + 1))) (addsV true (if c=true then addV A a else A) (vars.drop (i + 1)) (cos.drop (i + 1)))
   (ad ++ (if (if c then A else X) a=true then [] else [(c,a)]) ++ newP (if c=false then addV X a else X) (if c=true then addV A a else A) (vars.drop (i + 1)) (cos.drop (i + 1))) S) :
 EN g0 bs ba i0 i1 (addsV false X (vars.drop i) (cos.drop i)) (addsV true A (vars.drop i) (cos.drop i)) (ad ++ newP X A (vars.drop i) (cos.drop i)) S:=by
 rw [hd,addsV_cons _ _ _ _ _ c hcd,addsV_cons _ _ _ _ _ c hcd,newP_cons _ _ _ _ _ c hcd,List.tail_drop,← List.append_assoc]
 exact h
theorem EN.more {g0 bs ba i0 i1:Nat} {X A:Int → Bool} {ad:List (Bool × Int)} {S S3:Sg} {c:Bool} {a:Int} {g:Nat} (h:EN g0 bs ba i0 i1 X A ad S) (e:(if c then A else X) a=false)
 (f1:S3.ob=upd (S.set (if c then i1 else i0) (.map (.int .i64) (setM (addV (if c then A else X) a)))).ob ba (some (.row [.slice (.gt g) 2 (ad.map encP ++ [.agg [I (sideOf c),I a]])]))) (f2:S3.nx=S.nx) (f3:g < S3.gn) (f4:S3.gl g=true) (f5:g0 ≤ g) :
 EN g0 bs ba i0 i1 (if c=false then addV X a else X) (if c=true then addV A a else A) (ad ++ (if (if c then A else X) a=true then [] else [(c,a)])) S3:=by
 have ho:∀ j,j ≠ ba → S3.ob j=(S.set (if c then i1 else i0) (.map (.int .i64) (setM (addV (if c then A else X) a)))).ob j:=fun j hj=>by rw [f1,upd_ne _ _ hj]
 have hb:∀ j,j ≠ ba → j ≠ (if c then i1 else i0) → S3.ob j=S.ob j:=fun j hj hk=>by rw [ho j hj,set_ne hk]
 refine ⟨?_,⟨.gt g,?_,.inr ⟨g,rfl,f4,f3,f5⟩⟩,?_,by rw [f2];exact h.bl,by rw [f2];exact h.al,h.ba',h.b0,h.b1,h.a0,h.a1⟩
 ·rw [hb bs h.ba' (by cases c;exact h.b0;exact h.b1)];exact h.hB
 ·rw [f1,upd_same,if_neg (by rw [e];simp),List.map_append];rfl
 cases c with
 | true=>exact ⟨by rw [hb i0 (Ne.symm h.a0) h.hS.ne];exact h.hS.h0,by rw [ho i1 (Ne.symm h.a1)];exact set_ob,by rw [f2];exact h.hS.l0,by rw [f2];exact h.hS.l1,h.hS.ne⟩
 | false=>exact ⟨by rw [ho i0 (Ne.symm h.a0)];exact set_ob,by rw [hb i1 (Ne.symm h.a1) (Ne.symm h.hS.ne)];exact h.hS.h1,by rw [f2];exact h.hS.l0,by rw [f2];exact h.hS.l1,h.hS.ne⟩
theorem EN.chg {bs ba i0 i1:Nat} {X A:Int → Bool} {ad:List (Bool × Int)} {S0 S S3:Sg} {c:Bool} {o y:AObj} (h:EN S0.gn bs ba i0 i1 X A ad S) (h0:Chg (fun j=>j=ba ∨ j=i0 ∨ j=i1) S0 S)
 (f1:S3.ob=upd (S.set (if c then i1 else i0) o).ob ba (some y)) (f2:S3.nx=S.nx) (f3:S.gn ≤ S3.gn) (f4:∀ g,g < S0.gn → S3.gl g=S.gl g) (f5:S3.Q=S.Q):Chg (fun j=>j=ba ∨ j=i0 ∨ j=i1) S0 S3:=by
 refine ⟨by have:=h0.nx;omega,fun j hj hx=>?_,by have:=h0.gn;omega,fun g hg=>(f4 g hg).trans (h0.gl g hg),f5.trans h0.Q⟩
 rw [f1,upd_ne _ _ (fun e=>hx (.inl e)),set_ne]
 ·exact h0.ob j hj hx
 intro e
 cases c
 ·exact hx (.inr (.inl e))
 exact hx (.inr (.inr e))
theorem enter_l {bs ba i0 i1:Nat} {S0:Sg} (vars:List Int) (cos:List Bool) (hl:vars.length ≤ cos.length) (X A:Int → Bool) (ad:List (Bool × Int)) (i:Nat) (hi:i ≤ vars.length) (hs:vars.length ≤ 2 ^ 40) {n:Nat} {v:Nat → Bool} {D:List (Nat × List AV)} {S:Sg} {Q:Ex → Fr → Prop}
 (had:ad.length ≤ i) (hE:EN S0.gn bs ba i0 i1 X A ad S) (hc0:Chg (fun j=>j=ba ∨ j=i0 ∨ j=i1) S0 S)
 (hX:∀ j S' n' v',EN S0.gn bs ba i0 i1 (addsV false X (vars.drop i) (cos.drop i)) (addsV true A (vars.drop i) (cos.drop i)) (ad ++ newP X A (vars.drop i) (cos.drop i)) S' → Chg (fun j=>j=ba ∨ j=i0 ∨ j=i1) S0 S' → Q (.exit 0) ⟨uv (uv (uv (uv (uv (uv (uv e0 14 (B false)) 13 (I j)) 12 (I (vars.map I).length)) 11 (.slice .none 1 (vars.map I))) 7 (.ptr ba 0)) 3 (.ptr bs 0)) 2 (bools cos),(fun _=>none),n',v',D,S'⟩):EX (callL p) (.loop F60_l1) ⟨uv (uv (uv (uv (uv (uv e0 13 (I i)) 12 (I (vars.map I).length)) 11 (.slice .none 1 (vars.map I))) 7 (.ptr ba 0)) 3 (.ptr bs 0)) 2 (bools cos),(fun _=>none),n,v,D,S⟩ Q:=by
 refine eloop (er (qp J (qb ?_)))
 rintro (_ | _) h1
 refine qn (kq7 J) kn (eseq (ecF J (eexit (sqx ?_))))
 exact hX _ _ _ _ (by rw [List.drop_eq_nil_of_le (by simp at h1 ⊢;omega)];simpa [addsV,newP] using hE) hc0
 refine qn (kq7 J) kn (eseq (ecT J (eskip (sqn (eseq (eblock (er (qp J ?_))))))))
 have hlt:i < vars.length:=by simpa using h1
 obtain ⟨a,ha⟩:=get_of_lt hlt
 have hd:=drop_cons ha
 refine hia (y:=I a) rfl rfl (by omega) (by simp [ha]) rfl (qp rfl (qp rfl (qp rfl (qk (kc rfl (kc rfl (kc rfl (kc rfl (kc rfl (kc rfl (kc rfl (kc rfl kn)))))))) kn (sqn (eseq (ereg (qp rfl (qp rfl ?_)))))))))
 obtain ⟨c,hc⟩:=get_of_lt (l:=cos) (i:=i) (by omega)
 have hcd:(cos.drop i).headD false=c:=by rw [coAt_drop];unfold coAt;rw [hc];rfl
 refine hia (y:=B c) rfl rfl (by omega) (by simp [hc]) rfl (qp rfl (hcall rfl rfl rfl (cside_c _ c) ?_))
 rintro _ _ ⟨rfl,hq⟩
 obtain rfl:=hq.symm
 refine qp J (qn (kq8 J) kn (er (qp J ?_)))
 refine qp (t:=.val (.ptr bs (0 + (sideOf c).toNat * 1))) (by cases c <;> rfl) ?_
 refine hldo rfl hE.hB (y:=.map (if c then i1 else i0)) (by cases c <;> rfl) ?_
 refine qp rfl (hlk (id:=if c then i1 else i0) (m:=setM (if c then A else X)) rfl rfl rfl (hE.hS.at c) ?_)
 rw [setM_get]
 refine qb ?_
 rintro (_ | _) h2
 refine qp J (qn (kq9 J) kn (ecT J (er (qp J ?_))))
 refine qp (t:=.val (.ptr bs (0 + (sideOf c).toNat * 1))) (by cases c <;> rfl) ?_
 refine hldo rfl hE.hB (y:=.map (if c then i1 else i0)) (by cases c <;> rfl) ?_
 refine qp rfl (hmu (id:=if c then i1 else i0) (m:=setM (if c then A else X)) rfl rfl rfl rfl (hE.hS.at c) ?_)
 rw [show (AV.lit (.bool true)).er=B true from rfl,setM_add]
 refine qn (kq8 J) kn (ereg ?_)
 obtain ⟨o,hA,hcan⟩:=hE.hA
 have hne:ba ≠ (if c then i1 else i0):=by cases c;exact hE.a0;exact hE.a1
 refine hldo rfl (by rw [set_ne hne];exact hA) rfl ?_
 refine qp rfl (qp rfl (hbuild rfl rfl (lc rfl (lc rfl (ln rfl))) (hbsl rfl rfl (lc rfl (ln rfl)) (hapO (g0:=S0.gn) rfl rfl hcan (by simp) (by simp;omega) rfl ?_))))
 intro v' S2 hv1 hv2 e1 e2 e3 e4 e5
 refine hstT rfl rfl (by rw [e1,set_ne hne];exact hA) (by simp) hv1 rfl ?_
 intro v'' S3 f1 f2 f3 f4 f5 f6 f7
 refine qk (kq6 J) kn (bqn (sqn (ereg (hadd J J (i64w (by omega)) (qp J (qk (kq6 J) kn ?_))))))
 rotate_left
 refine qp J (qn (kq9 J) kn (ecF J (eskip (bqn (sqn (ereg (hadd J J (i64w (by omega)) (qp J (qk (kq6 J) kn ?_)))))))))
 rotate_left
 all_goals
  first
  | (have h2':(if c=true then A else X) a=true:=h2
     exact enter_l vars cos hl _ _ _ (i + 1) (by omega) hs (by split <;> simp <;> first | omega | (split <;> simp <;> omega)) (hE.old h2') hc0 (fun j S' n' v' h c2=>hX j S' n' v' (EN.fin hd hcd h) c2))
  | (have h2':(if c=true then A else X) a=false:=h2
     have hg:=hc0.gn
     have e3':S2.gn=S.gn:=e3
     have f1':S3.ob=upd (S.set (if c then i1 else i0) (.map (.int .i64) (setM (addV (if c then A else X) a)))).ob ba (some (.row [.slice (.gt S2.gn) 2 (ad.map encP ++ [.agg [I (sideOf c),I a]])])):=by rw [f1,e1];rfl
     have f2':S3.nx=S.nx:=f2.trans e2
     exact enter_l vars cos hl _ _ _ (i + 1) (by omega) hs (by split <;> simp <;> first | omega | (split <;> simp <;> omega)) (hE.more h2' f1' f2' (by omega) f4 (by omega)) (EN.chg (c:=c) hE hc0 f1' f2' (by omega) (fun g hg3=>(f5 g (by omega)).trans (e4 g hg3)) (f6.trans e5)) (fun j S' n' v' h c2=>hX j S' n' v' (EN.fin hd hcd h) c2))
termination_by vars.length - i
decreasing_by all_goals omega
theorem en_init {i0 i1:Nat} {X A:Int → Bool} (s:Sg) (hS:PS i0 i1 X A s):EN s.gn s.nx (s.new (.row [.map i0,.map i1])).nx i0 i1 X A [] ((s.new (.row [.map i0,.map i1])).new (.row [.slice .full 2 []])):=by
 have e:(s.new (.row [.map i0,.map i1])).nx=s.nx + 1:=rfl
 have e2:((s.new (.row [.map i0,.map i1])).new (.row [.slice .full 2 []])).nx=s.nx + 2:=rfl
 have l0:=hS.l0
 have l1:=hS.l1
 have hl:∀ j,j < s.nx → ((s.new (.row [.map i0,.map i1])).new (.row [.slice .full 2 []])).ob j=s.ob j:=fun j hj=>by rw [new_lt (by omega),new_lt hj]
 refine ⟨?_,⟨.full,?_,.inl rfl⟩,⟨?_,?_,by omega,by omega,hS.ne⟩,by omega,by omega,by omega,by omega,by omega,by omega,by omega⟩
 ·rw [new_lt (by omega)];exact new_ob
 ·rw [new_ob];rfl
 ·rw [hl i0 l0];exact hS.h0
 rw [hl i1 l1];exact hS.h1
theorem enter_c (s:Sg) (i0 i1:Nat) (X A:Int → Bool) (vars:List Int) (cos:List Bool) (hl:vars.length ≤ cos.length) (hs:vars.length ≤ 2 ^ 40) (hS:PS i0 i1 X A s):HC p N60_ [.agg [.map i0,.map i1],ints vars,bools cos] s (fun r s'=>∃ bs ba,r=[.fn N108_ [] [.ptr ba 0,.ptr bs 0]] ∧ EN s.gn bs ba i0 i1 (addsV false X vars cos) (addsV true A vars cos) (newP X A vars cos) s' ∧ Chg (IXA i0 i1) s s' ∧ s.nx ≤ bs ∧ s.nx ≤ ba):=by
 refine hcf J f60_ J ?_
 simp only [chainOf]
 refine er (hboxo J (lq2 J) (qp J (qn (kq3 J) kn (er (hall (qn (kq4 J) kn (eseq (er (pq3 J (qn (kq6 J) kn (eblock (enter_l vars cos hl X A [] 0 (by omega) hs (by simp) (en_init s hS) ((Chg.new (Chg.new (Chg.refl s))).mono fun i _ h=>h) ?_))))))))))))
 intro j S1 n1 v1 hE hc
 refine bqx (sqn (er (pq2 J (qn (kq1 J) kn (eret (fqr J ?_))))))
 exact ⟨_,_,rfl,hE,hc.mono (fun i hi h=>by rcases h with h | h;exact absurd h (by show i ≠ s.nx + 1;omega);exact h),Nat.le_refl _,Nat.le_succ _⟩
def delP (w:Bool) (X:Int → Bool) (l:List (Bool × Int)):Int → Bool:=fun n=>X n && !(l.any fun q=>decide (q=(w,n)))
theorem delP_cons (w:Bool) (X:Int → Bool) (q:Bool × Int) (l:List (Bool × Int)):delP w X (q :: l)=delP w (if q.1=w then delV X q.2 else X) l:=by
 obtain ⟨c,v⟩:=q
 funext n
 unfold delP delV
 by_cases h:c=w
 ·subst h
  by_cases hn:n=v
  ·subst hn;simp
  have:¬ v=n:=fun e=>hn e.symm
  simp [hn,this]
 simp [h]
theorem delP_nil (w:Bool) (X:Int → Bool):delP w X []=X:=by
 funext n
 simp [delP]
theorem addsV_or {w:Bool}:∀ (vars:List Int) (cos:List Bool) (X:Int → Bool) (n:Int),X n=true → addsV w X vars cos n=true
 | [],_,X,n,h=>by simpa [addsV] using h
 | v :: vs,cs,X,n,h=>by
   rw [addsV]
   apply addsV_or
   split
   ·simp [addV,h]
   exact h
theorem newP_any {w:Bool}:∀ (vars:List Int) (cos:List Bool) (X A:Int → Bool) (n:Int),((newP X A vars cos).any fun q=>decide (q=(w,n)))=(!(if w then A else X) n && addsV w (if w then A else X) vars cos n)
 | [],_,X,A,n=>by simp [newP,addsV]
 | v :: vs,cs,X,A,n=>by
   rw [newP_cons X A v vs cs _ rfl,addsV_cons w _ v vs cs _ rfl,List.any_append,newP_any vs cs.tail]
   generalize cs.headD false=c
   by_cases hc:c=w
   ·subst hc
    have e1:(if c=true then (if c=true then addV A v else A) else (if c=false then addV X v else X))=addV (if c=true then A else X) v:=by cases c <;> rfl
    rw [e1,if_pos rfl]
    by_cases hv:(if c=true then A else X) v=true
    ·rw [if_pos hv,addV_old hv];rfl
    rw [if_neg hv]
    have hv':(if c=true then A else X) v=false:=by simpa using hv
    by_cases hn:n=v
    ·subst hn
     have:=addsV_or (w:=c) vs cs.tail (addV (if c=true then A else X) n) n (by simp [addV])
     rw [hv',this]
     simp
    have h2:¬ v=n:=fun e=>hn e.symm
    simp [addV,hn,h2]
   have e1:(if w=true then (if c=true then addV A v else A) else (if c=false then addV X v else X))=(if w=true then A else X):=by cases c <;> cases w <;> simp_all
   rw [e1,if_neg hc]
   have h2:((if (if c=true then A else X) v=true then [] else [(c,v)]).any fun q=>decide (q=(w,n)))=false:=by
    by_cases hv:(if c=true then A else X) v=true
    ·rw [if_pos hv];rfl
    rw [if_neg hv]
    have:¬ ((c,v):Bool × Int)=(w,n):=fun e=>hc (by cases e;rfl)
    simp only [List.any_cons,List.any_nil,decide_eq_false this,Bool.or_false]
   rw [h2,Bool.false_or]
theorem delP_newP (w:Bool) (X A:Int → Bool) (vars:List Int) (cos:List Bool):delP w (addsV w (if w then A else X) vars cos) (newP X A vars cos)=if w then A else X:=by
 funext n
 unfold delP
 rw [newP_any]
 cases h:(if w=true then A else X) n with
 | true=>rw [addsV_or _ _ _ _ h];rfl
 | false=>cases addsV w (if w=true then A else X) vars cos n <;> rfl
theorem leave_l {bs i0 i1:Nat} {o:Own} (ad:List (Bool × Int)) (X A:Int → Bool) (i:Nat) (hi:i ≤ ad.length) (hs:ad.length ≤ 2 ^ 40) {n:Nat} {v:Nat → Bool} {D:List (Nat × List AV)} {S:Sg} {Q:Ex → Fr → Prop}
 (hB:S.ob bs=some (.row [.map i0,.map i1])) (hS:PS i0 i1 X A S) (b0:bs ≠ i0) (b1:bs ≠ i1)
 (hX:∀ j S',PS i0 i1 (delP false X (ad.drop i)) (delP true A (ad.drop i)) S' → Chg (IXA i0 i1) S S' → Q (.exit 0) ⟨uv (uv (uv (uv (uv e0 7 (B false)) 6 (I j)) 5 (I (ad.map encP).length)) 4 (.slice o 2 (ad.map encP))) 1 (.ptr bs 0),(fun _=>none),n,v,D,S'⟩):EX (callL p) (.loop F108_l1) ⟨uv (uv (uv (uv e0 6 (I i)) 5 (I (ad.map encP).length)) 4 (.slice o 2 (ad.map encP))) 1 (.ptr bs 0),(fun _=>none),n,v,D,S⟩ Q:=by
 refine eloop (er (qp J (qb ?_)))
 rintro (_ | _) h1
 ·refine qn (kq5 J) kn (eseq (ecF J (eexit (sqx ?_))))
  exact hX _ _ (by rw [List.drop_eq_nil_of_le (by simp at h1 ⊢;omega),delP_nil,delP_nil];exact hS) (Chg.refl _)
 refine qn (kq5 J) kn (eseq (ecT J (eskip (sqn (eseq (eblock (er ?_)))))))
 have hlt:i < ad.length:=by simpa using h1
 obtain ⟨a,ha⟩:=get_of_lt hlt
 have hd:=drop_cons ha
 refine hia (y:=encP a) rfl rfl (by omega) (by simp [ha]) rfl ?_
 obtain ⟨w,x⟩:=a
 refine hlda J J (lq2 J) (hal (dq7 J) (hstl J J J J (Nlb J) (lq2 J) (qn (kq5 J) (kq1 J) (ereg (pq2 J ?_)))))
 refine qp (t:=.val (.ptr bs (0 + (sideOf w).toNat * 1))) (by cases w <;> rfl) ?_
 refine hldo rfl hB (y:=.map (if w then i1 else i0)) (by cases w <;> rfl) ?_
 refine qp rfl (qp rfl (hdl (id:=if w then i1 else i0) (m:=setM (if w then A else X)) rfl rfl rfl (hS.at w) ?_))
 rw [setM_delV]
 refine qk (kq4 J) kn (bqn (sqn (ereg (hadd J J (i64w (by omega)) (qp J (qk (kq4 J) kn ?_))))))
 have hX':=hX
 rw [hd,delP_cons,delP_cons] at hX'
 have him:bs ≠ (if w then i1 else i0):=by cases w;exact b0;exact b1
 refine leave_l ad (if w=false then delV X x else X) (if w=true then delV A x else A) (i + 1) (by omega) hs (by rw [set_ne him];exact hB) ?_ b0 b1 (fun j S' h c=>hX' j S' h (Chg.trans ((Chg.refl S).set (fun _=>by cases w;exact .inl rfl;exact .inr rfl)) c))
 cases w with
 | true=>exact ⟨by rw [if_pos rfl,set_ne hS.ne];exact hS.h0,set_ob,hS.l0,hS.l1,hS.ne⟩
 | false=>exact ⟨set_ob,by rw [if_neg (by simp),set_ne (Ne.symm hS.ne)];exact hS.h1,hS.l0,hS.l1,hS.ne⟩
termination_by ad.length - i
decreasing_by all_goals omega
theorem leave_c (s:Sg) (bs ba i0 i1:Nat) (X A:Int → Bool) (o:Own) (ad:List (Bool × Int)) (hz:ad.length ≤ 2 ^ 40) (hB:s.ob bs=some (.row [.map i0,.map i1])) (hA:s.ob ba=some (.row [.slice o 2 (ad.map encP)])) (hS:PS i0 i1 X A s) (b0:bs ≠ i0) (b1:bs ≠ i1):HC p N108_ [.ptr ba 0,.ptr bs 0] s (fun r s'=>r=[] ∧ PS i0 i1 (delP false X ad) (delP true A ad) s' ∧ Chg (IXA i0 i1) s s'):=by
 refine hcf J f108_ J ?_
 simp only [chainOf]
 refine er (hldo J hA J ?_)
 refine pq2 J (qn (kq4 J) kn (eblock (leave_l ad X A 0 (by omega) hz hB hS b0 b1 ?_)))
 intro j S1 hS1 hc
 refine bqx (fqn J ?_)
 exact ⟨rfl,hS1,hc⟩
end Go.Sim.Kd
namespace Go.Sim.Kd
open Go Go.Sim
structure KV (c:Core) (k i0 i1:Nat) (X A:Int → Bool) (left:Int) (S:Sg):Prop where
 hk:S.ob k=some (.row [SL 3 (c.decls.map Decl.enc),SL 8 (c.funs.map CFun.enc),I left])
 ps:PS i0 i1 X A S
 kl:k < S.nx
 k0:k ≠ i0
 k1:k ≠ i1
abbrev K3 (k i0 i1:Nat):Nat → Prop:=fun j=>j=k ∨ j=i0 ∨ j=i1
def VPost (c:Core) (k i0 i1:Nat) (X A:Int → Bool) (left:Int) (s:Sg) (P:Prop) (nn:Nat) (r:List AV) (s':Sg):Prop :=
 ∃ b left',r=[B b] ∧ KV c k i0 i1 X A left' s' ∧ Chg (K3 k i0 i1) s s' ∧ -1 ≤ left' ∧ left' ≤ left ∧ (b=true ↔ P) ∧ (b=true → left'=left - nn)
def VC (c:Core) (a:Node):Prop:=∀ (s:Sg) (k i0 i1:Nat) (X A:Int → Bool) (left deep:Int),KV c k i0 i1 X A left s → 0 ≤ left → left ≤ 2 ^ 40 → 0 ≤ deep → deep ≤ 4001 →
 HC p N63_ [.ptr k 0,.agg [.map i0,.map i1],.agg a.cs,I deep] s (fun r s'=>VPost c k i0 i1 X A left s (vN c.decls c.funs a X A=true ∧ (nNodes a:Int) ≤ left ∧ deep + nDepth a ≤ 4001) (nNodes a) r s')
def SortsP (c:Core) (l:List Node) (want:List Int) (X A:Int → Bool) (left deep:Int):Prop:=vNs c.decls c.funs l want X A=true ∧ (szL nNodes l:Int) ≤ left ∧ deep + 1 + mxL nDepth l ≤ 4001
theorem sorts_nil {c:Core} {X A:Int → Bool} {left deep:Int} (h0:0 ≤ left) (h1:deep ≤ 4000):SortsP c [] [] X A left deep:=⟨by rw [vNs],by simp [szL];omega,by simp [mxL];omega⟩
theorem sorts_cons {c:Core} {a:Node} {l:List Node} {w:Int} {ws:List Int} {X A:Int → Bool} {left deep:Int} (hs:sortOf a.op=w) (hv:vN c.decls c.funs a X A=true ∧ (nNodes a:Int) ≤ left ∧ deep + 1 + nDepth a ≤ 4001) :
 SortsP c (a :: l) (w :: ws) X A left deep ↔ SortsP c l ws X A (left - nNodes a) deep:=by
 obtain ⟨h1,h2,h3⟩:=hv
 simp only [SortsP,vNs,szL,mxL,hs,h1,decide_true,Bta]
 constructor
 ·rintro ⟨a1,a2,a3⟩;exact ⟨a1,by omega,by omega⟩
 rintro ⟨a1,a2,a3⟩;exact ⟨a1,by omega,by omega⟩
theorem sorts_no {c:Core} {a:Node} {l:List Node} {w:Int} {ws:List Int} {X A:Int → Bool} {left deep:Int} (h:SortsP c (a :: l) (w :: ws) X A left deep):sortOf a.op=w ∧ vN c.decls c.funs a X A=true ∧ (nNodes a:Int) ≤ left ∧ deep + 1 + nDepth a ≤ 4001:=by
 obtain ⟨a1,a2,a3⟩:=h
 simp only [vNs,Bae,Dte] at a1
 simp only [szL,mxL] at a2 a3
 exact ⟨a1.1.1,a1.1.2,by omega,by omega⟩
theorem sorts_len {c:Core} {l:List Node} {ws:List Int} {X A:Int → Bool} {left deep:Int} (h:SortsP c l ws X A left deep):l.length=ws.length:=vNs_len h.1
def xtorAt (ds:List Decl) (t n:Int) (co:Bool):Option Xtor:=match declAt ds t with
 | some d=>if d.codata=co ∧ 0 ≤ n then d.xtors[n.toNat]? else none
 | none=>none
theorem xtor_c (s:Sg) (c:Core) (k:Nat) (left t n:Int) (co:Bool) (hdl:c.decls.length ≤ 2 ^ 40) (hk:s.ob k=some (.row [SL 3 (c.decls.map Decl.enc),SL 8 (c.funs.map CFun.enc),I left])):HC p N109_ [.ptr k 0,I t,I n,B co] s (fun r s'=>s'=s ∧ ∃ x ok,r=[Xtor.enc x,B ok] ∧ xtorAt c.decls t n co=if ok then some x else none):=by
 refine hcf J f109_ J ?_
 simp only [chainOf]
 refine er (hal (dq4 J) (qp J (qn (kq5 J) (kq1 J) (eseq (er (pq2 J (qb ?_)))))))
 rintro (_ | _) h1
 refine qp J (qg J (qp J (qg J (qp J (qg J (qp J (qg J (qp J (qg J (hldo J hk J ?_))))))))))
 refine qg J (qp J (qg J (qp J (qb ?_))))
 rintro (_ | _) h2
 refine pq2 J (qg J (qp J (qg J (qp J (qg J (qp J (qg J (hldo J hk J ?_))))))))
 refine qg rfl (qp rfl (qg rfl (hsub rfl rfl (i64w (by simp at h1 h2;omega)) (qg rfl ?_))))
 have ht1:1 ≤ t:=by simp at h1;omega
 have ht2:t ≤ c.decls.length:=by simp at h2;omega
 obtain ⟨d,hd⟩:=get_of_lt (l:=c.decls) (i:=(t - 1).toNat) (by omega)
 have hda:declAt c.decls t=some d:=by rw [declAt,if_pos ht1];exact hd
 refine hia (y:=Decl.enc d) rfl rfl (by omega) (by rw [Lgm,hd];rfl) rfl ?_
 refine qg J (qp J (qg J (qp J (qg J (qp J (qg J (qp J (qb ?_))))))))
 rintro (_ | _) h3
 refine pq2 J (qg J (qp J (qg J (qp J (qb ?_)))))
 rintro (_ | _) h4
 refine pq2 J (qg J (qp J (qg J (qp J (qg J (qp J (qg J (qp J (qg J (hldo J hk J ?_))))))))))
 refine qg J (qp J (qg J (hsub J J (i64w (by omega)) (qg J ?_))))
 refine hia (y:=Decl.enc d) rfl rfl (by omega) (by rw [Lgm,hd];rfl) rfl ?_
 refine qg J (qp J (qg J (qp J (qg J (qp J (qg J (qp J (qb ?_))))))))
 rintro (_ | _) h5
 refine qp J (qn (kq5 J) (kq1 J) (ecF J (eskip (sqn (er (pq3 J (hldo J hk J ?_)))))))
 refine qp J (hsub J J (i64w (by omega)) ?_)
 refine hia (y:=Decl.enc d) rfl rfl (by omega) (by rw [Lgm,hd];rfl) rfl ?_
 refine pq3 J ?_
 obtain ⟨x,hx⟩:=get_of_lt (l:=d.xtors) (i:=n.toNat) (by simp at *;omega)
 refine hia (y:=Xtor.enc x) rfl rfl (by simp at *;omega) (by rw [Lgm,hx];rfl) rfl ?_
 refine hlda J J (lq2 J) (hstl J J J J (Nlb J) (lq2 J) (qp J (qn (kq2 J) (kq1 J) (eret (fqr J ?_)))))
 rotate_left
 refine qp J (qn (kq5 J) (kq1 J) (ecT J (er (hbuild J J (lq2 J) (hstl J J J J (Nlb J) (lq2 J) (qp J (qn (kq2 J) (kq1 J) (eret (sqr (fqr J ?_))))))))))
 rotate_left
 refine pq2 J (zq10 J (zq2 J (qp J (qn (kq5 J) (kq1 J) (ecT J (er (hbuild J J (lq2 J) (hstl J J J J (Nlb J) (lq2 J) (qp J (qk (kq2 J) (kq1 J) ?_))))))))))
 refine sqn (eret (sqr (fqr J ?_)))
 rotate_left
 refine pq2 J (zq2 J (pq2 J (zq10 J (zq2 J (qp J (qn (kq5 J) (kq1 J) (ecT J (er ?_))))))))
 refine hbuild J J (lq2 J) (hstl J J J J (Nlb J) (lq2 J) (qp J (qn (kq2 J) (kq1 J) (eret (sqr (fqr J ?_))))))
 rotate_left
 refine pq2 J (zq10 J (zq1 J (pq2 J (zq2 J (pq2 J (zq5 J ?_))))))
 refine zq7 J (qp J (qn (kq5 J) (kq1 J) (ecT J (er (hbuild J J (lq2 J) (hstl J J J J (Nlb J) (lq2 J) (qp J (qn (kq2 J) (kq1 J) (eret (sqr (fqr J ?_)))))))))))
 rotate_left
 refine qp J (zq7 J (pq2 J (zq10 J (zq1 J (pq2 J (zq1 J ?_))))))
 refine zq1 J (pq2 J (zq10 J (zq2 J (qp J (qn (kq5 J) (kq1 J) (ecT J (er (hbuild J J (lq2 J) (hstl J J J J (Nlb J) (lq2 J) (qp J ?_))))))))))
 refine qn (kq2 J) (kq1 J) (eret (sqr (fqr J ?_)))
 rotate_left
 all_goals
  first
  | exact ⟨rfl,x,true,rfl,by rw [xtorAt,hda];simp only [];rw [if_pos ⟨by simpa using h3,by simp at h4;omega⟩];exact hx⟩
  | exact ⟨rfl,⟨⟨#[]⟩,[]⟩,false,rfl,by
     rw [xtorAt,hda]
     simp only []
     rcases Decidable.em (d.codata=co ∧ 0 ≤ n) with q | q
     ·rw [if_pos q]
      first
      | (exfalso;have q1:=q.1;have q2:=q.2;simp at *;omega)
      | (exfalso;have q1:=q.1;simp [q1] at h3;done)
      | (rw [List.getElem?_eq_none (by simp at *;omega)];rfl)
     rw [if_neg q];rfl⟩
  | exact ⟨rfl,⟨⟨#[]⟩,[]⟩,false,rfl,by rw [xtorAt,declAt_none (by simp at *;omega)];rfl⟩
theorem sorts_l {k i0 i1:Nat} (c:Core) (l:List Node) (want:List Int) (X A:Int → Bool) (hlen:l.length=want.length) (deep:Int) (hdeep:0 ≤ deep ∧ deep ≤ 4000) (H:∀ b ∈ l,VC c b) (i:Nat) (hi:i ≤ l.length) (hs:l.length ≤ 2 ^ 40) {n:Nat} {v:Nat → Bool} {D:List (Nat × List AV)} {S:Sg} {Q:Ex → Fr → Prop}
 (left:Int) (h0:0 ≤ left ∧ left ≤ 2 ^ 40) (hK:KV c k i0 i1 X A left S)
 (hX:∀ j S' left',KV c k i0 i1 X A left' S' → Chg (K3 k i0 i1) S S' → SortsP c (l.drop i) (want.drop i) X A left deep → left'=left - szL nNodes (l.drop i) → 0 ≤ left' → Q (.exit 0) ⟨uv (uv (uv (upd (uv (uv (uv (uv e0 21 (B false)) 20 (I j)) 19 (I (l.map Node.enc).length)) 18 (.slice .none 5 (l.map Node.enc))) 6 (some (.loc 6 0))) 4 (ints want)) 3 (I deep)) 0 (.ptr k 0),upd ((fun _=>none)) 6 (some ([.map i0,.map i1])),n,v,D,S'⟩)
 (hR:∀ S' left',KV c k i0 i1 X A left' S' → Chg (K3 k i0 i1) S S' → -1 ≤ left' → left' ≤ left → ¬ SortsP c (l.drop i) (want.drop i) X A left deep → Q .ret ⟨uv e0 10 (B false),(fun _=>none),n,v,D,S'⟩):EX (callL p) (.loop F111_l1) ⟨uv (uv (uv (upd (uv (uv (uv e0 20 (I i)) 19 (I (l.map Node.enc).length)) 18 (.slice .none 5 (l.map Node.enc))) 6 (some (.loc 6 0))) 4 (ints want)) 3 (I deep)) 0 (.ptr k 0),upd ((fun _=>none)) 6 (some ([.map i0,.map i1])),n,v,D,S⟩ Q:=by
 refine eloop (er (qp J (qb ?_)))
 rintro (_ | _) h1
 refine qn (kq8 J) (kq1 J) (eseq (ecF J (eexit (sqx ?_))))
 exact hX _ _ left hK (Chg.refl _) (by rw [List.drop_eq_nil_of_le (by simp at h1 ⊢;omega),List.drop_eq_nil_of_le (by simp at h1 ⊢;omega)];exact sorts_nil h0.1 hdeep.2) (by rw [List.drop_eq_nil_of_le (by simp at h1 ⊢;omega)];simp [szL]) h0.1
 refine qn (kq8 J) (kq1 J) (eseq (ecT J (eskip (sqn (eseq (eblock (er (qp J ?_))))))))
 have hlt:i < l.length:=by simpa using h1
 obtain ⟨a,ha⟩:=get_of_lt hlt
 have hd:=drop_cons ha
 refine hia (y:=.agg a.cs) rfl rfl (by omega) (by simp [ha,Node.enc_eq,Br.enc_eq,CFun.enc_eq]) rfl (hlda rfl rfl (lc rfl (lc rfl (lc rfl (lc rfl (lc rfl (ln rfl)))))) (hal (dc (dc (dc (dc (dc (dc (dc (dc (dc (dc (dc dn rfl) rfl) rfl) rfl) rfl) rfl) rfl) rfl) rfl) rfl) rfl) (qp rfl (hstl rfl rfl rfl rfl (Nlb rfl) (lc rfl (lc rfl (lc rfl (lc rfl (lc rfl (ln rfl)))))) (qk (kc rfl (kc rfl (kc rfl (kc rfl (kc rfl (kc rfl (kc rfl (kc rfl (kc rfl kn))))))))) (kc rfl (kc rfl kn)) (sqn (eseq (ereg (qp rfl (qp rfl (hcall rfl rfl rfl (Sort_c _ _) ?_)))))))))))
 rintro _ _ ⟨rfl,hq⟩
 obtain rfl:=hq.symm
 refine pq2 J ?_
 obtain ⟨w,hw⟩:=get_of_lt (l:=want) (i:=i) (by omega)
 have hw2:=drop_cons hw
 refine hia (y:=I w) rfl rfl (by omega) (by simp [hw]) rfl (qp rfl (qp rfl (qb ?_)))
 rintro (_ | _) h2
 refine qp J (qg J (qp J (qg J (hlda J J (lq2 J) (qg J (hlda J J (lq5 J) (qg J (qp J (qg J (hadd J J (i64w (by omega)) (qg J (hcall J J J (H a (Lmg ha) _ k i0 i1 X A left (deep + 1) hK h0.1 h0.2 (by omega) (by omega)) ?_))))))))))))
 rintro _ S' ⟨b,left',rfl,hK',hc',q3,q4,q5,q6⟩
 refine qb ?_
 rintro (_ | _) h3
 refine qg J (pq2 J (qn (kq8 J) (kq1 J) (ecT J (er (qp J (qn (kq1 J) kn (eret (bqr (sqr ?_)))))))))
 rotate_left
 refine qg J (pq2 J (qn (kq8 J) (kq1 J) (ecF J (eskip (bqn (sqn (ereg (hadd J J (i64w (by omega)) (qp J (qk (kq7 J) (kq1 J) ?_))))))))))
 have f1:(!decide (sortOf a.op=w))=false:=by assumption
 have f1':sortOf a.op=w:=by simpa using f1
 have f2:b=true:=by assumption
 subst f2
 have hv:=q5.1 rfl
 have hl':=q6 rfl
 have hz1:0 ≤ left':=by have:=hv.2.1;omega
 exact sorts_l c l want X A hlen deep hdeep H (i + 1) (by omega) hs left' ⟨hz1,by omega⟩ hK'
  (fun j S2 l2 h c2 e1 e2 e3=>hX j S2 l2 h (hc'.trans c2) (by rw [hd,hw2];exact (sorts_cons f1' hv).2 (hl' ▸ e1)) (by rw [e2,hl',hd];simp only [szL];omega) e3)
  (fun S2 l2 h c2 e1 e2 e3=>hR S2 l2 h (hc'.trans c2) e1 (by omega) (by rw [hd,hw2];exact fun q=>e3 (hl' ▸ (sorts_cons f1' hv).1 q)))
 refine qp J (zq7 J (qp J (qn (kq8 J) (kq1 J) (ecT J (er (qp J (qn (kq1 J) kn (eret (bqr (sqr ?_))))))))))
 rotate_left
 all_goals
  first
  | (have f1:(!decide (sortOf a.op=w))=true:=by assumption
     refine hR _ left hK (Chg.refl _) (by omega) (by omega) fun h=>?_
     rw [hd,hw2] at h
     have:=(sorts_no h).1
     simp [this] at f1)
  | (refine hR _ left' hK' hc' q3 q4 fun h=>?_
     rw [hd,hw2] at h
     have:=q5.2 (sorts_no h).2
     simp_all)
termination_by l.length - i
decreasing_by all_goals omega
theorem sorts_c (s:Sg) (c:Core) (k i0 i1:Nat) (X A:Int → Bool) (left deep:Int) (l:List Node) (want:List Int) (hz:l.length ≤ 2 ^ 40) (hdeep:0 ≤ deep ∧ deep ≤ 4000) (h0:0 ≤ left ∧ left ≤ 2 ^ 40) (hK:KV c k i0 i1 X A left s) (H:∀ b ∈ l,VC c b):HC p N111_ [.ptr k 0,.agg [.map i0,.map i1],SL 5 (l.map Node.enc),I deep,ints want] s (fun r s'=>VPost c k i0 i1 X A left s (SortsP c l want X A left deep) (szL nNodes l) r s'):=by
 refine hcf J f111_ J ?_
 simp only [chainOf]
 refine er (hbox (dq5 J) J (lq2 J) (qp J (qn (kq5 J) (kq1 J) (eseq (er (pq5 J (qb ?_)))))))
 rintro (_ | _) h1
 refine qn (kq6 J) (kq1 J) (ecF J (eskip (sqn (eseq (er (pq3 J (qn (kq7 J) (kq1 J) (eblock ?_))))))))
 refine sorts_l c l want X A (by simp at h1;omega) deep hdeep H 0 (by omega) hz left h0 hK ?_ ?_
 intro j S1 l1 hK1 hc1 e1 e2 e3
 refine bqx (sqn (er (qp J (qn (kq1 J) kn (eret (fqr J ?_))))))
 rotate_left
 intro S1 l1 hK1 hc1 e1 e2 e3
 refine bqr (sqr (fqr J ?_))
 rotate_left
 refine qn (kq6 J) (kq1 J) (ecT J (er (qp J (qn (kq1 J) kn (eret (sqr (fqr J ?_)))))))
 rotate_left
 all_goals
  first
  | (refine ⟨false,left,rfl,hK,Chg.refl _,by omega,by omega,⟨fun h=>by simp at h,fun h=>?_⟩,fun h=>by simp at h⟩
     have:=sorts_len h
     simp at h1
     omega)
  | exact ⟨true,l1,rfl,hK1,hc1,by omega,by omega,⟨fun _=>by simpa using e1,fun _=>rfl⟩,fun _=>by simpa using e2⟩
  | exact ⟨false,l1,rfl,hK1,hc1,e1,e2,⟨fun h=>by simp at h,fun h=>absurd (by simpa using h) e3⟩,fun h=>by simp at h⟩
theorem take_map2 {α:Type} {g:α → Int} {l:List α} {i:Nat} {a:α} (ha:l[i]?=some a):((l.take i).map g).map I ++ [I (g a)]=((l.take (i + 1)).map g).map I:=by simp [List.take_add_one,ha]
theorem cargs_l {x0 x2 x4:AV} {cs6:List AV} (l:List Arg) (o:Own) (i:Nat) (hi:i ≤ l.length) (hs:l.length ≤ 2 ^ 40) {n:Nat} {v:Nat → Bool} {D:List (Nat × List AV)} {S:Sg} {Q:Ex → Fr → Prop}
 (hlv:Can o v) (hX:∀ j n' v' o',Q (.exit 0) ⟨uv (uv (uv (upd (uv (uv (uv (uv (uv e0 17 (B false)) 16 (I j)) 15 (I (l.map Arg.enc).length)) 14 (.slice .none 2 (l.map Arg.enc))) 11 (.slice o' 1 ((l.map (fun a=>sideOf a.co)).map I))) 6 (some (.loc 6 0))) 4 (x4)) 2 (x2)) 0 (x0),upd ((fun _=>none)) 6 (some (cs6)),n',v',D,S⟩):EX (callL p) (.loop F110_l1) ⟨uv (uv (uv (upd (uv (uv (uv (uv e0 16 (I i)) 15 (I (l.map Arg.enc).length)) 14 (.slice .none 2 (l.map Arg.enc))) 11 (.slice o 1 (((l.take i).map (fun a=>sideOf a.co)).map I))) 6 (some (.loc 6 0))) 4 (x4)) 2 (x2)) 0 (x0),upd ((fun _=>none)) 6 (some (cs6)),n,v,D,S⟩ Q:=by
 refine eloop (er (qp J (qb ?_)))
 rintro (_ | _) h1
 ·refine qn (kq9 J) (kq1 J) (eseq (ecF J (eexit (sqx ?_))))
  have e:l.take i=l:=List.take_of_length_le (by simp at h1 ⊢;omega)
  rw [e]
  exact hX _ _ _ _
 refine qn (kq9 J) (kq1 J) (eseq (ecT J (eskip (sqn (eseq (eblock (er ?_)))))))
 have hlt:i < l.length:=by simpa using h1
 obtain ⟨a,ha⟩:=get_of_lt hlt
 have hd:=drop_cons ha
 refine hia (y:=Arg.enc a) rfl rfl (by omega) (by simp [ha]) rfl (hlda rfl rfl (lc rfl (lc rfl (ln rfl))) (hal (dc (dc (dc (dc (dc (dc (dc (dc (dc (dc (dc dn rfl) rfl) rfl) rfl) rfl) rfl) rfl) rfl) rfl) rfl) rfl) (hstl rfl rfl rfl rfl (Nlb rfl) (lc rfl (lc rfl (ln rfl))) (qk (kc rfl (kc rfl (kc rfl (kc rfl (kc rfl (kc rfl (kc rfl (kc rfl (kc rfl kn))))))))) (kc rfl (kc rfl kn)) (sqn (ereg (qp rfl (qp rfl (qp rfl (hcall rfl rfl rfl (cside_c _ a.co) ?_))))))))))
 rintro _ _ ⟨rfl,hq⟩
 obtain rfl:=hq.symm
 refine hbsl rfl rfl (lq1 rfl) (hapC rfl rfl hlv (by simp) (by simp;omega) (take_map2 ha) ?_)
 intro v' hv1 hv2
 refine qp J (qk (kq8 J) (kq1 J) (bqn (sqn (ereg (hadd J J (i64w (by omega)) (qp J (qk (kq8 J) (kq1 J) ?_)))))))
 exact cargs_l l (.tip n) (i + 1) (by omega) hs hv1 hX
termination_by l.length - i
decreasing_by all_goals omega
theorem args_cc (s:Sg) (c:Core) (k i0 i1:Nat) (X A:Int → Bool) (left deep:Int) (l:List Node) (as:List Arg) (hz:l.length ≤ 2 ^ 40) (hza:as.length ≤ 2 ^ 40) (hdeep:0 ≤ deep ∧ deep ≤ 4000) (h0:0 ≤ left ∧ left ≤ 2 ^ 40) (hK:KV c k i0 i1 X A left s) (H:∀ b ∈ l,VC c b):HC p N110_ [.ptr k 0,.agg [.map i0,.map i1],SL 5 (l.map Node.enc),encArgs as,I deep] s (fun r s'=>VPost c k i0 i1 X A left s (SortsP c l (as.map fun (a:Arg)=>sideOf a.co) X A left deep) (szL nNodes l) r s'):=by
 refine hcf J f110_ J ?_
 simp only [chainOf]
 refine er (hbox (dq5 J) J (lq2 J) (qp J (qn (kq5 J) (kq1 J) (er (qp J (qn (kq6 J) (kq1 J) (eseq (er (pq3 J (qn (kq8 J) (kq1 J) (eblock (cargs_l as .full 0 (by omega) hza trivial ?_))))))))))))
 intro j n1 v1 o1
 refine bqx (sqn (er (qp J (hlda J J (lq2 J) (pq3 J (hcall J J J (sorts_c _ c k i0 i1 X A left deep l (as.map fun (a:Arg)=>sideOf a.co) hz hdeep h0 hK H) ?_))))))
 rintro _ S' ⟨b,left',rfl,hP⟩
 refine qp J (qn (kq1 J) kn (eret (fqr J ?_)))
 exact ⟨b,left',rfl,hP⟩
theorem KV.ext {c:Core} {k i0 i1:Nat} {X A:Int → Bool} {left:Int} {S S':Sg} (h:KV c k i0 i1 X A left S) (e:Ext S S'):KV c k i0 i1 X A left S' :=
 ⟨(e.ob k h.kl).trans h.hk,h.ps.keep (e.chg (X:=fun _=>False)) id id,Nat.lt_of_lt_of_le h.kl e.nx,h.k0,h.k1⟩
theorem newP_len:∀ (vars:List Int) (cos:List Bool) (X A:Int → Bool),(newP X A vars cos).length ≤ vars.length
 | [],_,_,_=>by simp [newP]
 | v :: vs,cs,X,A=>by
   rw [newP,List.length_append]
   have:=newP_len vs cs.tail (if cs.headD false=false then addV X v else X) (if cs.headD false=true then addV A v else A)
   have h1:(if (if cs.headD false=true then A else X) v=true then [] else [(cs.headD false,v)]).length ≤ 1:=by cases (if cs.headD false=true then A else X) v <;> simp
   rw [List.length_cons]
   omega
theorem en_kv {c:Core} {k i0 i1 bs ba:Nat} {X A X' A':Int → Bool} {ad:List (Bool × Int)} {left:Int} {s S1:Sg} {g:Nat} (hK:KV c k i0 i1 X A left s) (hE:EN g bs ba i0 i1 X' A' ad S1) (hc1:Chg (IXA i0 i1) s S1):KV c k i0 i1 X' A' left S1 :=
 ⟨(hc1.ob k hK.kl (fun h=>by rcases h with h | h;exact hK.k0 h;exact hK.k1 h)).trans hK.hk,hE.hS,Nat.lt_of_lt_of_le hK.kl hc1.nx,hK.k0,hK.k1⟩
theorem lv_c {c:Core} {k i0 i1 bs ba:Nat} {X A:Int → Bool} {vars:List Int} {cos:List Bool} {left left':Int} {s S1 S2:Sg} (hK:KV c k i0 i1 X A left s) (hE:EN s.gn bs ba i0 i1 (addsV false X vars cos) (addsV true A vars cos) (newP X A vars cos) S1) (hc1:Chg (IXA i0 i1) s S1) (hbs:s.nx ≤ bs) (hba:s.nx ≤ ba)
 (hK2:KV c k i0 i1 (addsV false X vars cos) (addsV true A vars cos) left' S2) (hc2:Chg (K3 k i0 i1) S1 S2) (hv:vars.length ≤ 2 ^ 40):HC p N108_ [.ptr ba 0,.ptr bs 0] S2 (fun r S3=>r=[] ∧ KV c k i0 i1 X A left' S3 ∧ Chg (K3 k i0 i1) s S3):=by
 have kl:=hK.kl
 have nb:¬ K3 k i0 i1 bs:=fun h=>by rcases h with h | h | h;omega;exact hE.b0 h;exact hE.b1 h
 have na:¬ K3 k i0 i1 ba:=fun h=>by rcases h with h | h | h;omega;exact hE.a0 h;exact hE.a1 h
 obtain ⟨o,hA,_⟩:=hE.hA
 have hlen:=newP_len vars cos X A
 refine (leave_c S2 bs ba i0 i1 _ _ o (newP X A vars cos) (by omega) ((hc2.ob bs hE.bl nb).trans hE.hB) ((hc2.ob ba hE.al na).trans hA) hK2.ps hE.b0 hE.b1).mono ?_
 rintro r S3 ⟨rfl,hS3,hc3⟩
 have d0:=delP_newP false X A vars cos
 have d1:=delP_newP true X A vars cos
 simp only [if_true,Bool.false_eq_true,if_false] at d0 d1
 rw [d0,d1] at hS3
 have hc3':Chg (K3 k i0 i1) S2 S3:=hc3.mono fun i _ h=>.inr h
 have hc1':Chg (K3 k i0 i1) s S1:=hc1.mono fun i _ h=>.inr h
 exact ⟨rfl,⟨(hc3.ob k hK2.kl (fun h=>by rcases h with h | h;exact hK.k0 h;exact hK.k1 h)).trans hK2.hk,hS3,Nat.lt_of_lt_of_le hK2.kl hc3.nx,hK.k0,hK.k1⟩,hc1'.trans (hc2.trans hc3')⟩
def BrsP (c:Core) (l:List Br) (xs:List Xtor) (X A:Int → Bool) (left deep:Int):Prop:=vBs c.decls c.funs l xs X A=true ∧ (szL (fun b=>nNodes b.body) l:Int) ≤ left ∧ deep + 1 + mxL (fun b=>nDepth b.body) l ≤ 4001
theorem brs_no {c:Core} {b:Br} {l:List Br} {x:Xtor} {xs:List Xtor} {X A:Int → Bool} {left deep:Int} (h:BrsP c (b :: l) (x :: xs) X A left deep):b.vars.length=x.args.length ∧ b.co=(x.args.map fun a=>a.co) ∧ distinctOk [] (b.vars.zip b.co)=true ∧ sortOf b.body.op=2 ∧
 (vN c.decls c.funs b.body (addsV false X b.vars b.co) (addsV true A b.vars b.co)=true ∧ (nNodes b.body:Int) ≤ left ∧ deep + 1 + nDepth b.body ≤ 4001):=by
 obtain ⟨a1,a2,a3⟩:=h
 simp only [vBs,vB_eq,Bae,Dte] at a1
 simp only [szL,mxL] at a2 a3
 obtain ⟨⟨⟨⟨⟨b1,b2⟩,b3⟩,b4⟩,b5⟩,_⟩:=a1
 exact ⟨b1,b2,b3,b4,b5,by omega,by omega⟩
theorem brs_cons {c:Core} {b:Br} {l:List Br} {x:Xtor} {xs:List Xtor} {X A:Int → Bool} {left deep:Int} (h:b.vars.length=x.args.length ∧ b.co=(x.args.map fun a=>a.co) ∧ distinctOk [] (b.vars.zip b.co)=true ∧ sortOf b.body.op=2 ∧
 (vN c.decls c.funs b.body (addsV false X b.vars b.co) (addsV true A b.vars b.co)=true ∧ (nNodes b.body:Int) ≤ left ∧ deep + 1 + nDepth b.body ≤ 4001)):BrsP c (b :: l) (x :: xs) X A left deep ↔ BrsP c l xs X A (left - nNodes b.body) deep:=by
 obtain ⟨b1,b2,b3,b4,b5,b6,b7⟩:=h
 simp only [BrsP,vBs,vB_eq,szL,mxL,b5,b4,b3,b1,decide_true,Bool.and_true,Bta]
 rw [decide_eq_true b2,Bta]
 constructor
 ·rintro ⟨a1,a2,a3⟩;exact ⟨a1,by omega,by omega⟩
 rintro ⟨a1,a2,a3⟩;exact ⟨a1,by omega,by omega⟩
theorem brs_nil {c:Core} {X A:Int → Bool} {left deep:Int} (h0:0 ≤ left) (h1:deep ≤ 4000):BrsP c [] [] X A left deep:=⟨by rw [vBs],by simp [szL];omega,by simp [mxL];omega⟩
theorem cbr_l2 (vs:List Int) (co:List Bool) (bd cs5:List AV) (al:List Arg) (hlen:co.length=al.length) (i:Nat) (hi:i ≤ al.length) (hs:al.length ≤ 2 ^ 40) {x0 x3 x9 x33 x34 x35:AV} {n:Nat} {v:Nat → Bool} {D:List (Nat × List AV)} {S:Sg} {Q:Ex → Fr → Prop}
 (hX:∀ j,co.drop i=(al.drop i).map (fun a=>a.co) → Q (.exit 2) ⟨uv (uv (upd (uv (upd (uv (uv (uv (uv (uv (uv (uv e0 65 (B false)) 64 (I j)) 63 (I (al.map Arg.enc).length)) 62 (.slice .none 2 (al.map Arg.enc))) 35 (x35)) 34 (x34)) 33 (x33)) 11 (some (.loc 11 0))) 9 (x9)) 5 (some (.loc 5 0))) 3 (x3)) 0 (x0),upd (upd ((fun _=>none)) 11 (some (ints vs :: bools co :: bd))) 5 (some (cs5)),n,v,D,S⟩) (hR:co.drop i ≠ (al.drop i).map (fun a=>a.co) → Q .ret ⟨uv e0 8 (B false),(fun _=>none),n,v,D,S⟩):EX (callL p) (.loop F112_l2) ⟨uv (uv (upd (uv (upd (uv (uv (uv (uv (uv (uv e0 64 (I i)) 63 (I (al.map Arg.enc).length)) 62 (.slice .none 2 (al.map Arg.enc))) 35 (x35)) 34 (x34)) 33 (x33)) 11 (some (.loc 11 0))) 9 (x9)) 5 (some (.loc 5 0))) 3 (x3)) 0 (x0),upd (upd ((fun _=>none)) 11 (some (ints vs :: bools co :: bd))) 5 (some (cs5)),n,v,D,S⟩ Q:=by
 refine eloop (er (qp J (qb ?_)))
 rintro (_ | _) h1
 ·refine qn (kq12 J) (kq2 J) (eseq (ecF J (eexit (sqx ?_))))
  exact hX _ (by rw [List.drop_eq_nil_of_le (by simp at h1 ⊢;omega),List.drop_eq_nil_of_le (by simp at h1 ⊢;omega)];rfl)
 refine qn (kq12 J) (kq2 J) (eseq (ecT J (eskip (sqn (eseq (eblock (er (qp J ?_))))))))
 have hlt:i < al.length:=by simpa using h1
 obtain ⟨a,ha⟩:=get_of_lt hlt
 have hd:=drop_cons ha
 refine hia (y:=Arg.enc a) rfl rfl (by omega) (by simp [ha]) rfl (hlda rfl rfl (lc rfl (lc rfl (ln rfl))) (hal (dc (dc (dc (dc (dc (dc (dc (dc (dc (dc (dc (dc (dc (dc (dc dn rfl) rfl) rfl) rfl) rfl) rfl) rfl) rfl) rfl) rfl) rfl) rfl) rfl) rfl) rfl) (qp rfl (hstl rfl rfl rfl rfl (Nlb rfl) (lc rfl (lc rfl (ln rfl))) (qk (kc rfl (kc rfl (kc rfl (kc rfl (kc rfl (kc rfl (kc rfl (kc rfl (kc rfl (kc rfl (kc rfl (kc rfl (kc rfl kn))))))))))))) (kc rfl (kc rfl (kc rfl kn))) (sqn (eseq (ereg (qp rfl (qp rfl (qp rfl ?_)))))))))))
 obtain ⟨c,hc⟩:=get_of_lt (l:=co) (i:=i) (by omega)
 have hc2:=drop_cons hc
 refine hia (y:=B c) rfl rfl (by omega) (by simp [hc]) rfl (qp rfl (qp rfl (qp rfl (qp rfl (qb ?_)))))
 rintro (_ | _) h2
 ·refine qn (kq12 J) (kq2 J) (ecF J (eskip (bqn (sqn (ereg (hadd J J (i64w (by omega)) (qp J (qk (kq11 J) (kq2 J) ?_))))))))
  have f1:(!(c == a.co))=false:=by assumption
  have f1':c=a.co:=by simpa using f1
  exact cbr_l2 vs co bd cs5 al hlen (i + 1) (by omega) hs (fun j h=>hX j (by rw [hd,hc2,List.map_cons,h,f1'])) (fun h=>hR (by rw [hd,hc2,List.map_cons];intro q;injection q with q1 q2;exact h q2))
 refine qn (kq12 J) (kq2 J) (ecT J (er (qp J (qn (kq1 J) kn (eret (bqr (sqr ?_)))))))
 have f1:(!(c == a.co))=true:=by assumption
 have f1':¬ c=a.co:=by simpa using f1
 exact hR (by rw [hd,hc2,List.map_cons];intro q;injection q with q1 q2;exact f1' q1)
termination_by al.length - i
decreasing_by all_goals omega
theorem cbr_l1 {k i0 i1:Nat} (c:Core) (l:List Br) (d:Decl) (X A:Int → Bool) (hlen:l.length=d.xtors.length) (deep:Int) (hdeep:0 ≤ deep ∧ deep ≤ 4000) (hza:∀ x ∈ d.xtors,x.args.length ≤ 2 ^ 40) (hzb:∀ b ∈ l,b.sz ≤ 2 ^ 40) (H:∀ b ∈ l,VC c b.body) (i:Nat) (hi:i ≤ l.length) (hs:l.length ≤ 2 ^ 40) {n:Nat} {v:Nat → Bool} {D:List (Nat × List AV)} {S:Sg} {Q:Ex → Fr → Prop}
 (left:Int) (h0:0 ≤ left ∧ left ≤ 2 ^ 40) (hK:KV c k i0 i1 X A left S)
 (hX:∀ j S' left',KV c k i0 i1 X A left' S' → Chg (K3 k i0 i1) S S' → BrsP c (l.drop i) (d.xtors.drop i) X A left deep → left'=left - szL (fun b=>nNodes b.body) (l.drop i) → 0 ≤ left' → Q (.exit 0) ⟨uv (uv (upd (uv (uv (uv (uv (uv e0 36 (B false)) 35 (I j)) 34 (I (l.map Br.enc).length)) 33 (.slice .none 7 (l.map Br.enc))) 9 (SL 2 (d.xtors.map Xtor.enc))) 5 (some (.loc 5 0))) 3 (I deep)) 0 (.ptr k 0),upd ((fun _=>none)) 5 (some ([.map i0,.map i1])),n,v,D,S'⟩)
 (hR:∀ S' left',KV c k i0 i1 X A left' S' → Chg (K3 k i0 i1) S S' → -1 ≤ left' → left' ≤ left → ¬ BrsP c (l.drop i) (d.xtors.drop i) X A left deep → Q .ret ⟨uv e0 8 (B false),(fun _=>none),n,v,D,S'⟩):EX (callL p) (.loop F112_l1) ⟨uv (uv (upd (uv (uv (uv (uv e0 35 (I i)) 34 (I (l.map Br.enc).length)) 33 (.slice .none 7 (l.map Br.enc))) 9 (SL 2 (d.xtors.map Xtor.enc))) 5 (some (.loc 5 0))) 3 (I deep)) 0 (.ptr k 0),upd ((fun _=>none)) 5 (some ([.map i0,.map i1])),n,v,D,S⟩ Q:=by
 refine eloop (er (qp J (qb ?_)))
 rintro (_ | _) h1
 refine qn (kq8 J) (kq1 J) (eseq (ecF J (eexit (sqx ?_))))
 exact hX _ _ left hK (Chg.refl _) (by rw [List.drop_eq_nil_of_le (by simp at h1 ⊢;omega),List.drop_eq_nil_of_le (by simp at h1 ⊢;omega)];exact brs_nil h0.1 hdeep.2) (by rw [List.drop_eq_nil_of_le (by simp at h1 ⊢;omega)];simp [szL]) h0.1
 refine qn (kq8 J) (kq1 J) (eseq (ecT J (eskip (sqn (eseq (eblock (er (qp J ?_))))))))
 have hlt:i < l.length:=by simpa using h1
 obtain ⟨a,ha⟩:=get_of_lt hlt
 have hd:=drop_cons ha
 refine hia (y:=.agg (ints a.vars :: bools a.co :: a.body.cs)) rfl rfl (by omega) (by simp [ha,Node.enc_eq,Br.enc_eq,CFun.enc_eq]) rfl (hlda rfl rfl (lc rfl (lc rfl (lc rfl (lc rfl (lc rfl (lc rfl (lc rfl (ln rfl)))))))) (hal (dc (dc (dc (dc (dc (dc (dc (dc (dc (dc (dc dn rfl) rfl) rfl) rfl) rfl) rfl) rfl) rfl) rfl) rfl) rfl) (qp rfl (hstl rfl rfl rfl rfl (Nlb rfl) (lc rfl (lc rfl (lc rfl (lc rfl (lc rfl (lc rfl (lc rfl (ln rfl)))))))) (qk (kc rfl (kc rfl (kc rfl (kc rfl (kc rfl (kc rfl (kc rfl (kc rfl (kc rfl kn))))))))) (kc rfl (kc rfl kn)) (sqn (eseq (eseq (ereg (qp rfl (qp rfl (qp rfl (qp rfl (qp rfl ?_))))))))))))))
 obtain ⟨x,hx⟩:=get_of_lt (l:=d.xtors) (i:=i) (by omega)
 have hx2:=drop_cons hx
 have hzv:=Br.sz_vars a
 have hzz:=hzb a (Lmg ha)
 refine hia (y:=Xtor.enc x) rfl rfl (by omega) (by simp [hx]) rfl (qp rfl (qp rfl (qp rfl (qp rfl (qb ?_)))))
 rintro (_ | _) h2
 refine qp J (qg J (qp J (qg J (qp J (qg J (qp J (qg J (qp J (qg J (hcall J J J (binds_c _ a.vars a.co (by omega)) ?_))))))))))
 rintro _ S1 ⟨rfl,hx1⟩
 have hK1:=hK.ext hx1
 refine qb ?_
 rintro (_ | _) h3
 refine qg J (pq2 J (qn (kq10 J) (kq2 J) (ecT J (er (qp J (qn (kq1 J) kn (eret (sqr (bqr (sqr ?_))))))))))
 rotate_left
 refine qg rfl (qp rfl (qp rfl (qk (kc rfl (kc rfl (kc rfl (kc rfl (kc rfl (kc rfl (kc rfl (kc rfl (kc rfl (kc rfl kn)))))))))) (kc rfl (kc rfl kn)) (sqn (ecF rfl (eskip (sqn (eseq (eseq (ereg (qp rfl (qp rfl (hia (y:=Xtor.enc x) rfl rfl (by omega) (by simp [hx]) rfl (qp rfl (qp rfl (qp rfl (qp rfl (qk (kc rfl (kc rfl (kc rfl (kc rfl (kc rfl (kc rfl (kc rfl (kc rfl (kc rfl (kc rfl (kc rfl kn))))))))))) (kc rfl (kc rfl kn)) (sqn (eblock ?_))))))))))))))))))))
 refine cbr_l2 a.vars a.co a.body.cs [.map i0,.map i1] x.args (by have hq1:(decide (a.vars.length=a.co.length) && distinctOk [] (a.vars.zip a.co))=true:=‹_›;simp at hq1 h2;omega) 0 (by omega) (hza x (Lmg hx)) ?_ ?_
 intro j2 hj
 refine bqx (sqn (eseq (ereg (hlda rfl rfl (lc rfl (lc rfl (ln rfl))) (qp rfl (qp rfl (qp rfl (qp rfl (hcall rfl rfl rfl (enter_c _ i0 i1 X A a.vars a.co (by have hq1:(decide (a.vars.length=a.co.length) && distinctOk [] (a.vars.zip a.co))=true:=‹_›;simp at hq1;omega) (by omega) hK1.ps) ?_)))))))))
 rintro _ S2 ⟨bs,ba,rfl,hE,hc2,hbs,hba⟩
 have hK2:=en_kv hK1 hE hc2
 have b:Bool:=false
 have left':=left
 have hcv:Chg (K3 k i0 i1) S2 S2:=Chg.refl _
 refine qp J (qn (kq9 J) (kq2 J) (er (pq3 J (hcall J J J (Sort_c _ _) ?_))))
 rintro _ _ ⟨rfl,hq⟩
 obtain rfl:=hq.symm
 refine qp J (qb ?_)
 rintro (_ | _) h4
 refine qp J (zq7 J (pq2 J (qn (kq9 J) (kq1 J) (er (qp J (hcall J J J (lv_c hK1 hE hc2 hbs hba hK2 hcv (by omega)) ?_))))))
 rintro _ S3 ⟨rfl,hK3,hc3⟩
 refine qn (kq8 J) (kq1 J) (er (pq2 J (qn (kq8 J) (kq1 J) (ecT J (er (qp J (qn (kq1 J) kn (eret (bqr (sqr ?_))))))))))
 rotate_left
 refine qp J (qg J (qp J (qg J (hlda J J (lq2 J) (qg J (qp J (qg J (hlda J J (lq5 J) (qg J (qp J (qg J (hadd J J (i64w (by omega)) (qg J (hcall J J J (H a (Lmg ha) _ k i0 i1 _ _ left (deep + 1) hK2 h0.1 h0.2 (by omega) (by omega)) ?_))))))))))))))
 rintro _ S2' ⟨b,left',rfl,hK2,hcv,q3,q4,q5,q6⟩
 refine qb ?_
 rintro (_ | _) h5
 refine pq2 J (qn (kq9 J) (kq1 J) (er (qp J (hcall J J J (lv_c hK1 hE hc2 hbs hba hK2 hcv (by omega)) ?_))))
 rintro _ S3 ⟨rfl,hK3,hc3⟩
 refine qn (kq8 J) (kq1 J) (er (pq2 J (qn (kq8 J) (kq1 J) (ecT J (er (qp J (qn (kq1 J) kn (eret (bqr (sqr ?_))))))))))
 rotate_left
 refine pq2 J (qn (kq9 J) (kq1 J) (er (qp J (hcall J J J (lv_c hK1 hE hc2 hbs hba hK2 hcv (by omega)) ?_))))
 rintro _ S3 ⟨rfl,hK3,hc3⟩
 refine qn (kq8 J) (kq1 J) (er (pq2 J (qn (kq8 J) (kq1 J) (ecF J (eskip (bqn (sqn (ereg (hadd J J (i64w (by omega)) (qp J (qk (kq7 J) (kq1 J) ?_)))))))))))
 have g1:(decide (a.vars.length=a.co.length) && distinctOk [] (a.vars.zip a.co))=true:=by assumption
 have g2:decide (sortOf a.body.op=2)=true:=by assumption
 have f2:b=true:=by first | assumption | simp_all
 subst f2
 have hv:=q5.1 rfl
 have hl':=q6 rfl
 have hz1:0 ≤ left':=by have:=hv.2.1;omega
 have hco:a.co=x.args.map (fun a=>a.co):=by simpa using hj
 simp only [Bae,Dte] at g1 g2
 have hall:=And.intro (show a.vars.length=x.args.length by have:=congrArg List.length hco;simp at this;omega) (And.intro hco (And.intro g1.2 (And.intro g2 hv)))
 exact cbr_l1 c l d X A hlen deep hdeep hza hzb H (i + 1) (by omega) hs left' ⟨hz1,by omega⟩ hK3
  (fun j S4 l4 h c4 e1 e2 e3=>hX j S4 l4 h (hx1.chg.trans (hc3.trans c4)) (by rw [hd,hx2];exact (brs_cons hall).2 (hl' ▸ e1)) (by rw [e2,hl',hd];simp only [szL];omega) e3)
  (fun S4 l4 h c4 e1 e2 e3=>hR S4 l4 h (hx1.chg.trans (hc3.trans c4)) e1 (by omega) (by rw [hd,hx2];exact fun q=>e3 (hl' ▸ (brs_cons hall).1 q)))
 intro hj
 refine bqr (sqr (bqr (sqr ?_)))
 rotate_left
 refine qp J (zq6 J (qp J (qn (kq10 J) (kq2 J) (ecT J (er (qp J (qn (kq1 J) kn (eret (sqr (bqr (sqr ?_)))))))))))
 rotate_left
 all_goals
  first
  | (refine hR _ left hK (Chg.refl _) (by omega) (by omega) fun h=>?_
     rw [hd,hx2] at h
     have q:=(brs_no h).1
     simp [q] at h2;done)
  | (refine hR _ left (hK.ext hx1) hx1.chg (by omega) (by omega) fun h=>?_
     rw [hd,hx2] at h
     have q:=brs_no h
     have e:a.vars.length=a.co.length:=by rw [q.2.1,List.length_map];exact q.1
     have g:(decide (a.vars.length=a.co.length) && distinctOk [] (a.vars.zip a.co))=false:=by assumption
     simp [e,q.2.2.1] at g;done)
  | (refine hR _ left (hK.ext hx1) hx1.chg (by omega) (by omega) fun h=>?_
     rw [hd,hx2] at h
     exact hj (by simpa using (brs_no h).2.1))
  | (refine hR _ left' hK3 (hx1.chg.trans hc3) q3 q4 fun h=>?_
     rw [hd,hx2] at h
     have q:=q5.2 (brs_no h).2.2.2.2
     simp_all;done)
  | (refine hR _ left hK3 (hx1.chg.trans hc3) (by omega) (by omega) fun h=>?_
     rw [hd,hx2] at h
     have q:=(brs_no h).2.2.2.1
     simp_all;done)
termination_by l.length - i
decreasing_by all_goals omega
theorem branches_c (s:Sg) (c:Core) (k i0 i1:Nat) (X A:Int → Bool) (left deep:Int) (nd:Node) (d:Decl) (hdl:c.decls.length ≤ 2 ^ 40) (hty:1 ≤ nd.ty ∧ nd.ty ≤ c.decls.length) (hd:c.decls[(nd.ty - 1).toNat]?=some d) (hza:∀ x ∈ d.xtors,x.args.length ≤ 2 ^ 40) (hz:nd.sz ≤ 2 ^ 40) (hdeep:0 ≤ deep ∧ deep ≤ 4000) (h0:0 ≤ left ∧ left ≤ 2 ^ 40) (hK:KV c k i0 i1 X A left s) (H:∀ b ∈ nd.brs,VC c b.body):HC p N112_ [.ptr k 0,.agg [.map i0,.map i1],.agg nd.cs,I deep] s (fun r s'=>VPost c k i0 i1 X A left s (BrsP c nd.brs d.xtors X A left deep) (szL (fun b=>nNodes b.body) nd.brs) r s'):=by
 refine hcf J f112_ J ?_
 simp only [chainOf]
 refine er (hbox (dq4 J) J (lq2 J) (hbox (dq5 J) J (lq5 J) (qp J (qn (kq4 J) (kq2 J) (er (pq3 J (hldo J hK.hk J ?_)))))))
 refine pq2 J (hsub J J (i64w (by omega)) ?_)
 refine hia (y:=Decl.enc d) rfl rfl (by omega) (by rw [Lgm,hd];rfl) rfl ?_
 refine pq3 J (qn (kq5 J) (kq2 J) (eseq (er (pq6 J (qb ?_)))))
 rintro (_ | _) h1
 refine qn (kq6 J) (kq2 J) (ecF J (eskip (sqn (eseq (er (pq4 J (qn (kq7 J) (kq1 J) (eblock ?_))))))))
 refine cbr_l1 c nd.brs d X A (by simp at h1;omega) deep hdeep hza (fun b hb=>by have:=Node.sz_br hb;omega) H 0 (by omega) (by have:=nd.sz_brs;omega) left h0 hK ?_ ?_
 intro j S1 l1 hK1 hc1 e1 e2 e3
 refine bqx (sqn (er (qp J (qn (kq1 J) kn (eret (fqr J ?_))))))
 rotate_left
 intro S1 l1 hK1 hc1 e1 e2 e3
 refine bqr (sqr (fqr J ?_))
 rotate_left
 refine qn (kq6 J) (kq2 J) (ecT J (er (qp J (qn (kq1 J) kn (eret (sqr (fqr J ?_)))))))
 rotate_left
 all_goals
  first
  | (refine ⟨false,left,rfl,hK,Chg.refl _,by omega,by omega,⟨fun h=>by simp at h,fun h=>?_⟩,fun h=>by simp at h⟩
     have:=vBs_len h.1
     simp at h1
     omega)
  | exact ⟨true,l1,rfl,hK1,hc1,by omega,by omega,⟨fun _=>by simpa using e1,fun _=>rfl⟩,fun _=>by simpa using e2⟩
  | exact ⟨false,l1,rfl,hK1,hc1,e1,e2,⟨fun h=>by simp at h,fun h=>absurd (by simpa using h) e3⟩,fun h=>by simp at h⟩
end Go.Sim.Kd
