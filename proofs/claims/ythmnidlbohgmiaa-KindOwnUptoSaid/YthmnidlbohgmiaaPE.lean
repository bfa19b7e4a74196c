/-
  A part of a proof: see the last text of this claim.
-/
import Derived.Test.YthmnidlbohgmiaaPC
set_option linter.unusedVariables false
set_option linter.unusedSimpArgs false
namespace Go.Sim.Kd
open Go Go.Sim
abbrev bytes (s:ByteArray):List UInt8:=s.data.toList
def lowB (b:UInt8):Bool:=decide ((b.toNat:Int) ≥ 97) && decide ((b.toNat:Int) ≤ 122)
def capB (b:UInt8):Bool:=decide ((b.toNat:Int) ≥ 65) && decide ((b.toNat:Int) ≤ 90)
def isLow (b:UInt8):Bool:=lowB b || (decide ((b.toNat:Int) ≥ 48) && decide ((b.toNat:Int) ≤ 57))
def headIs (f:UInt8 → Bool) (s:ByteArray):Bool:=match bytes s with
 | b :: _=>f b
 | []=>false
def resWords:List ByteArray:=[⟨#[100,97,116,97]⟩,⟨#[99,111,100,97,116,97]⟩,⟨#[102,117,110]⟩,⟨#[105,110,116]⟩,⟨#[105,102,122]⟩,⟨#[99,97,115,101]⟩,⟨#[99,111,99,97,115,101]⟩,⟨#[108,101,116]⟩,⟨#[101,109,105,116]⟩,⟨#[108,97,98,101,108]⟩,⟨#[103,111,116,111]⟩]
def reserved (s:ByteArray):Bool:=resWords.any fun w=>decide (s=w)
def nameOk (s:ByteArray):Bool:=decide (1 ≤ s.size) && decide (s.size ≤ 10) && headIs lowB s && ((bytes s).drop 1).all isLow && !reserved s
def xnameOk (s:ByteArray):Bool:=decide (1 ≤ s.size) && decide (s.size ≤ 10) && headIs capB s && ((bytes s).drop 1).all isLow
theorem byte_at {s:ByteArray} {i:Nat} (h:i < s.size):∃ b,s.data.toList[i]?=some b:=⟨_,List.getElem?_eq_getElem (by simpa using h)⟩
theorem headIs_of {f:UInt8 → Bool} {s:ByteArray} {b:UInt8} (h:s.data.toList[0]?=some b):headIs f s=f b:=by
 unfold headIs
 show (match s.data.toList with
  | b :: _=>f b
  | []=>false)=f b
 cases hs:s.data.toList with
 | nil=>rw [hs] at h;cases h
 | cons x l=>rw [hs] at h;cases h;rfl
theorem lower_c (s:Sg) (b:UInt8):HC p N140_ [.lit (.int .u8 b.toNat)] s (fun r s'=>r=[B (lowB b)] ∧ s'=s):=by
 refine hcf rfl f140_ rfl ?_
 simp only [chainOf]
 refine eseq (ereg (qp rfl (qk (kc rfl kn) kn (sqn (eseq (ereg (qp rfl (qp rfl (qb ?_)))))))))
 rintro (_ | _) h1
 ·refine qp rfl (qs rfl rfl (by decide) (qs rfl rfl (by decide) (qp rfl (qp rfl (qk (kc rfl kn) kn (sqn (eret (fqr rfl ?_))))))))
  refine ⟨?_,rfl⟩;simp_all [AV.ers,AV.er,isLow,lowB] <;> omega
 ·refine qp rfl (qg rfl (qp rfl (qg rfl (qp rfl (qp rfl (qp rfl (qk (kc rfl kn) kn (sqn (eret (fqr rfl ?_))))))))))
  refine ⟨?_,rfl⟩;simp_all [AV.ers,AV.er,isLow,lowB] <;> omega
theorem drest_l (s:ByteArray) (i:Nat) (hi:i ≤ s.size) (hs:s.size ≤ 2 ^ 40) {n:Nat} {v:Nat → Bool} {D:List (Nat × List AV)} {S:Sg} {Q:Ex → Fr → Prop}
 (hX:∀ j,((bytes s).drop i).all isLow=true → Q (.exit 0) ⟨upd (upd (upd ((fun _=>none)) 7 (some (.val (B false)))) 3 (some (.val (I j)))) 0 (some (.val (Str s))),(fun _=>none),n,v,D,S⟩) (hR:((bytes s).drop i).all isLow=false → Q .ret ⟨upd ((fun _=>none)) 2 (some (.val (B false))),(fun _=>none),n,v,D,S⟩):EX (callL p) (.loop F141_l1) ⟨upd (upd ((fun _=>none)) 3 (some (.val (I i)))) 0 (some (.val (Str s))),(fun _=>none),n,v,D,S⟩ Q:=by
 refine eloop (eseq (eseq (ereg (qp rfl (qp rfl (qp rfl (qp rfl (qb ?_))))))))
 rintro (_ | _) h1
 ·refine qk (kc rfl (kc rfl (kc rfl kn))) kn (sqn (ecF rfl (eexit (sqx ?_))))
  exact hX _ (by rw [List.drop_eq_nil_of_le (by simp at h1 ⊢;omega)];rfl)
 ·refine qk (kc rfl (kc rfl (kc rfl kn))) kn (sqn (ecT rfl (eskip (sqn (eseq (eblock (eseq (ereg (qp rfl (qp rfl ?_))))))))))
  obtain ⟨b,hb⟩:=byte_at (s:=s) (i:=i) (by simpa using h1)
  refine hixs rfl rfl (by omega) (by simpa using hb) (hcall rfl rfl rfl (lower_c _ _) ?_)
  rintro _ _ ⟨rfl,rfl⟩
  refine qb ?_
  rintro (_ | _) h2
  ·refine qp rfl (qp rfl (qg rfl (qp rfl (qg rfl (qp rfl (qg rfl (hixs rfl rfl (by omega) (by simpa using hb) (qg rfl (qp rfl (qb ?_))))))))))
   rintro (_ | _) h3
   ·refine qg rfl (qp rfl (qg rfl (qp rfl (qg rfl (qp rfl (qg rfl (hixs rfl rfl (by omega) (by simpa using hb) (qg rfl (qp rfl (qb ?_))))))))))
    rintro (_ | _) h4
    ·refine qg rfl (qp rfl (qp rfl (qk (kc rfl (kc rfl (kc rfl kn))) kn (sqn (ecF rfl (eskip (bqn (sqn (ereg (qp rfl (hadd rfl rfl (i64w (by omega)) (qp rfl (qk (kc rfl (kc rfl kn)) kn ?_)))))))))))))
     have hlt:i < s.size:=by simpa using h1
     have hf:isLow b=true:=by simp_all [isLow] <;> omega
     exact drest_l s (i + 1) (by omega) hs (fun j h=>hX j (by rw [drop_cons hb];simp_all)) (fun h=>hR (by rw [drop_cons hb];simp_all))
    ·refine qg rfl (qp rfl (qp rfl (qk (kc rfl (kc rfl (kc rfl kn))) kn (sqn (ecT rfl (eseq (ereg (qp rfl (qk (kc rfl kn) kn (sqn (eret (bqr (sqr ?_)))))))))))))
     have hf:isLow b=false:=by simp_all [isLow] <;> omega
     exact hR (by rw [drop_cons hb];simp_all)
   ·refine qg rfl (qp rfl (qs rfl rfl (by decide) (qs rfl rfl (by decide) (qs rfl rfl (by decide) (qs rfl rfl (by decide) (qg rfl (qp rfl (qp rfl (qk (kc rfl (kc rfl (kc rfl kn))) kn (sqn (ecT rfl (eseq (ereg (qp rfl (qk (kc rfl kn) kn (sqn (eret (bqr (sqr ?_)))))))))))))))))))
    have hf:isLow b=false:=by simp_all [isLow] <;> omega
    exact hR (by rw [drop_cons hb];simp_all)
  ·refine qp rfl (qp rfl (qs rfl rfl (by decide) (qs rfl rfl (by decide) (qs rfl rfl (by decide) (qs rfl rfl (by decide) (qs rfl rfl (by decide) (qs rfl rfl (by decide) (qs rfl rfl (by decide) (qs rfl rfl (by decide) (qs rfl rfl (by decide) (qs rfl rfl (by decide) (qp rfl (qk (kc rfl (kc rfl (kc rfl kn))) kn (sqn (ecF rfl (eskip (bqn (sqn (ereg (qp rfl (hadd rfl rfl (i64w (by omega)) (qp rfl (qk (kc rfl (kc rfl kn)) kn ?_)))))))))))))))))))))))
   have hlt:i < s.size:=by simpa using h1
   have hf:isLow b=true:=by simp_all [isLow] <;> omega
   exact drest_l s (i + 1) (by omega) hs (fun j h=>hX j (by rw [drop_cons hb];simp_all)) (fun h=>hR (by rw [drop_cons hb];simp_all))
termination_by s.size - i
decreasing_by all_goals omega
theorem drest_c (s:Sg) (x:ByteArray) (hs:x.size ≤ 2 ^ 40):HC p N141_ [Str x] s (fun r s'=>r=[B ((bytes x).all isLow)] ∧ s'=s):=by
 refine hcf rfl f141_ rfl ?_
 simp only [chainOf]
 refine eseq (ereg (qp rfl (qk (kc rfl kn) kn (sqn (eseq (eseq (ereg (qp rfl (qk (kc rfl (kc rfl kn)) kn (sqn (eblock ?_)))))))))))
 refine drest_l x 0 (by omega) hs ?_ ?_
 ·intro j ha
  refine bqx (sqn (eseq (ereg (qp rfl (qk (kc rfl kn) kn (sqn (eret (fqr rfl ?_))))))))
  refine ⟨?_,rfl⟩;simp_all [AV.ers,AV.er]
 ·intro ha
  refine bqr (sqr (fqr rfl ?_))
  refine ⟨?_,rfl⟩;simp_all [AV.ers,AV.er]
end Go.Sim.Kd
namespace Go.Sim.Kd
open Go Go.Sim
def QOK (s:Sg):Prop:=hasInt (s.Q 0 0)=true
theorem Contains_c (s:Sg) (hQ:QOK s) (a b:ByteArray) (ha:a.size < 4294967281):HC p N142_ [Str a,Str b] s (fun r s'=>r=[B (Lib.contains (bytes a) (bytes b))] ∧ s'=s):=by
 refine ⟨_,s,?_,rfl,rfl⟩
 rw [callL_eq]
 have e:p.ov N142_=some containsOv:=rfl
 rw [e]
 simp only [containsOv,if_pos (show a.size < 4294967281 ∧ hasInt (s.Q 0 0)=true from ⟨ha,hQ⟩)]
def has (sub:List UInt8):List UInt8 → Bool
 | []=>sub.isPrefixOf []
 | b :: l=>sub.isPrefixOf (b :: l) || has sub l
theorem index_cons (sub:List UInt8) (b:UInt8) (l:List UInt8):Lib.index (b :: l) sub=if sub.isPrefixOf (b :: l)=true then 0 else if (Lib.index l sub == -1)=true then -1 else Lib.index l sub + 1:=by
 conv=>lhs;unfold Lib.index
theorem contains_has (sub:List UInt8):∀ l,Lib.contains l sub=has sub l
 | []=>by
   cases sub with
   | nil=>rfl
   | cons a t=>rfl
 | b :: l=>by
   have ih:=contains_has sub l
   unfold Lib.contains at ih ⊢
   unfold has
   rw [← ih,index_cons]
   cases hp:sub.isPrefixOf (b :: l) with
   | true=>simp
   | false =>
     simp only [Bool.false_eq_true,if_false,Bool.false_or]
     have:=Lib.index_ge l sub
     by_cases h:Lib.index l sub=-1
     ·rw [h];rfl
     ·have e:(Lib.index l sub == -1)=false:=by rw [beq_eq_false_iff_ne];exact h
      simp only [e,Bool.false_eq_true,if_false]
      rw [Bool.eq_iff_iff]
      simp only [decide_eq_true_eq]
      omega
theorem pre_word {w x r:List UInt8} (hw:∀ b ∈ w,b ≠ 32) (hx:∀ b ∈ x,b ≠ 32):(w ++ [32]).isPrefixOf (x ++ 32 :: r)=decide (w=x):=by
 induction w generalizing x with
 | nil =>
   cases x with
   | nil=>simp
   | cons b x=>have:=hx b (List.mem_cons_self ..);simp [List.isPrefixOf,Ne.symm this]
 | cons a w ih =>
   cases x with
   | nil=>have:=hw a (List.mem_cons_self ..);simp [List.isPrefixOf,this]
   | cons b x =>
     simp only [List.cons_append,List.isPrefixOf,ih (fun b hb=>hw b (List.mem_cons_of_mem _ hb)) (fun b hb=>hx b (List.mem_cons_of_mem _ hb)),List.cons.injEq]
     rw [Bool.eq_iff_iff]
     simp
theorem has_skip {t x r:List UInt8} (hx:∀ b ∈ x,b ≠ 32):has (32 :: t) (x ++ r)=has (32 :: t) r:=by
 induction x with
 | nil=>rfl
 | cons b x ih =>
   have hb:=hx b (List.mem_cons_self ..)
   simp only [List.cons_append,has,List.isPrefixOf]
   have e:((32:UInt8) == b)=false:=by rw [beq_eq_false_iff_ne];exact Ne.symm hb
   rw [e,Bool.false_and,Bool.false_or]
   exact ih fun b hb=>hx b (List.mem_cons_of_mem _ hb)
theorem has_words {w:List UInt8} (hw:∀ b ∈ w,b ≠ 32):∀ ws:List (List UInt8),(∀ x ∈ ws,∀ b ∈ x,b ≠ 32) → has (32 :: (w ++ [32])) (32 :: ws.flatMap (· ++ [32]))=ws.any fun x=>decide (w=x)
 | [],_=>by cases w <;> simp [has,List.isPrefixOf]
 | x :: ws,h=>by
   have hx:=h x (List.mem_cons_self ..)
   have ih:=has_words hw ws fun y hy=>h y (List.mem_cons_of_mem _ hy)
   have e:(x :: ws).flatMap (· ++ [32])=x ++ 32 :: ws.flatMap (· ++ [32]):=by simp
   rw [has,e,List.isPrefixOf,pre_word hw hx,has_skip hx,ih]
   simp
def resBytes:List (List UInt8):=resWords.map bytes
def resText:ByteArray:=⟨#[32,100,97,116,97,32,99,111,100,97,116,97,32,102,117,110,32,105,110,116,32,105,102,122,32,99,97,115,101,32,99,111,99,97,115,101,32,108,101,116,32,101,109,105,116,32,108,97,98,101,108,32,103,111,116,111,32]⟩
theorem resText_eq:bytes resText=32 :: resBytes.flatMap (· ++ [32]):=by decide
theorem contains_reserved {x:ByteArray} (hx:(bytes x).all isLow=true):Lib.contains (bytes resText) (32 :: (bytes x ++ [32]))=reserved x:=by
 have h32:∀ b ∈ bytes x,b ≠ 32:=by
  intro b hb e
  have:=List.all_eq_true.1 hx b hb
  subst e
  revert this
  decide
 rw [contains_has,resText_eq,has_words h32 resBytes (by decide)]
 unfold reserved resBytes
 rw [List.any_map]
 congr 1
 funext w
 show decide (bytes x=bytes w)=decide (x=w)
 rw [Bool.eq_iff_iff]
 simp only [decide_eq_true_eq]
 constructor
 ·intro h
  exact ByteArray.ext (Array.ext' h)
 ·intro h;rw [h]
theorem all_split {x:ByteArray} (h:headIs lowB x=true):(bytes x).all isLow=((bytes x).drop 1).all isLow:=by
 unfold headIs at h
 cases hb:bytes x with
 | nil=>rfl
 | cons b l=>rw [hb] at h;simp only at h;simp [isLow,h]
theorem name_eq {x:ByteArray} {b:UInt8} (h1:1 ≤ x.size) (h2:x.size ≤ 10) (hb:x.data.toList[0]?=some b) (hl:lowB b=true) (hr:(bytes x).all isLow=true):nameOk x=!reserved x:=by
 unfold nameOk
 rw [headIs_of hb,← all_split (by rw [headIs_of hb];exact hl),hr,hl,decide_eq_true h1,decide_eq_true h2]
 simp
theorem cat1 {x:ByteArray} (h:x.size ≤ 100):(⟨#[32]⟩:ByteArray).size + x.size ≤ 2 ^ 62:=by
 have:(⟨#[32]⟩:ByteArray).size=1:=rfl
 omega
theorem cat2 {x:ByteArray} (h:x.size ≤ 100):((⟨#[32]⟩:ByteArray) ++ x).size + (⟨#[32]⟩:ByteArray).size ≤ 2 ^ 62:=by
 have:(⟨#[32]⟩:ByteArray).size=1:=rfl
 rw [ByteArray.size_append]
 omega
theorem cat_bytes (x:ByteArray):bytes ((⟨#[32]⟩:ByteArray) ++ x ++ ⟨#[32]⟩)=32 :: (bytes x ++ [32]):=by
 simp [bytes]
theorem dName_c (s:Sg) (hQ:QOK s) (x:ByteArray):HC p N89_ [Str x] s (fun r s'=>r=[B (nameOk x)] ∧ s'=s):=by
 refine hcf rfl f89_ rfl ?_
 simp only [chainOf]
 refine eseq (ereg (qp rfl (qk (kc rfl kn) kn (sqn (eseq (ereg (qp rfl (qp rfl (qp rfl (qb ?_))))))))))
 rintro (_ | _) h1
 ·refine qp rfl (qs rfl rfl (by decide) (qs rfl rfl (by decide) (qs rfl rfl (by decide) (qp rfl (qp rfl (qs rfl rfl (by decide) (qs rfl rfl (by decide) (qs rfl rfl (by decide) (qp rfl (qp rfl (qs rfl rfl (by decide) (qs rfl rfl (by decide) (qp rfl (qp rfl (qs rfl rfl (by decide) (qs rfl rfl (by decide) (qs rfl rfl (by decide) (qs rfl rfl (by decide) (qs rfl rfl (by decide) (qp rfl (qp rfl (qk (kc rfl kn) kn (sqn ?_)))))))))))))))))))))))
  refine eret (fqr rfl ?_)
  refine ⟨?_,rfl⟩
  first
  | (have ha:=all_split (x:=x) (by rw [headIs_of hb];assumption);simp_all [AV.ers,AV.er,nameOk,headIs_of,-List.all_eq_true,-List.all_eq_false,-List.any_eq_true,-List.any_eq_false];done)
  | (rw [name_eq (by simp at *;omega) (by simp at *;omega) hb (by assumption) (by assumption)];rfl)
  | (simp_all [AV.ers,AV.er,nameOk,headIs_of,-List.all_eq_true,-List.all_eq_false,-List.any_eq_true,-List.any_eq_false] <;> omega)
 ·refine qp rfl (qg rfl (qp rfl (qg rfl (qp rfl (qg rfl (qp rfl (qb ?_)))))))
  rintro (_ | _) h2
  ·refine qp rfl (qp rfl (qs rfl rfl (by decide) (qs rfl rfl (by decide) (qs rfl rfl (by decide) (qp rfl (qp rfl (qs rfl rfl (by decide) (qs rfl rfl (by decide) (qp rfl (qp rfl (qs rfl rfl (by decide) (qs rfl rfl (by decide) (qs rfl rfl (by decide) (qs rfl rfl (by decide) (qs rfl rfl (by decide) (qp rfl (qp rfl (qk (kc rfl kn) kn (sqn (eret (fqr rfl ?_)))))))))))))))))))))
   refine ⟨?_,rfl⟩
   first
   | (have ha:=all_split (x:=x) (by rw [headIs_of hb];assumption);simp_all [AV.ers,AV.er,nameOk,headIs_of,-List.all_eq_true,-List.all_eq_false,-List.any_eq_true,-List.any_eq_false];done)
   | (rw [name_eq (by simp at *;omega) (by simp at *;omega) hb (by assumption) (by assumption)];rfl)
   | (simp_all [AV.ers,AV.er,nameOk,headIs_of,-List.all_eq_true,-List.all_eq_false,-List.any_eq_true,-List.any_eq_false] <;> omega)
  ·refine qp rfl (qp rfl (qg rfl (qp rfl (qg rfl ?_))))
   obtain ⟨b,hb⟩:=byte_at (s:=x) (i:=0) (by simp at h1;omega)
   refine hixs rfl rfl (by omega) (by simpa using hb) (qg rfl (hcall rfl rfl rfl (lower_c _ _) ?_))
   rintro _ _ ⟨rfl,rfl⟩
   refine qb ?_
   rintro (_ | _) h3
   ·refine qp rfl (qp rfl (qs rfl rfl (by decide) (qs rfl rfl (by decide) (qp rfl (qp rfl (qs rfl rfl (by decide) (qs rfl rfl (by decide) (qs rfl rfl (by decide) (qs rfl rfl (by decide) (qs rfl rfl (by decide) (qp rfl (qp rfl (qk (kc rfl kn) kn (sqn (eret (fqr rfl ?_))))))))))))))))
    refine ⟨?_,rfl⟩
    first
    | (have ha:=all_split (x:=x) (by rw [headIs_of hb];assumption);simp_all [AV.ers,AV.er,nameOk,headIs_of,-List.all_eq_true,-List.all_eq_false,-List.any_eq_true,-List.any_eq_false];done)
    | (rw [name_eq (by simp at *;omega) (by simp at *;omega) hb (by assumption) (by assumption)];rfl)
    | (simp_all [AV.ers,AV.er,nameOk,headIs_of,-List.all_eq_true,-List.all_eq_false,-List.any_eq_true,-List.any_eq_false] <;> omega)
   ·refine qp rfl (qp rfl (qg rfl (qp rfl (qg rfl (hcall rfl rfl rfl (drest_c _ _ (by simp at *;omega)) ?_)))))
    rintro _ _ ⟨rfl,rfl⟩
    refine qb ?_
    rintro (_ | _) h4
    ·refine qp rfl (qp rfl (qs rfl rfl (by decide) (qs rfl rfl (by decide) (qs rfl rfl (by decide) (qs rfl rfl (by decide) (qs rfl rfl (by decide) (qp rfl (qp rfl (qk (kc rfl kn) kn (sqn (eret (fqr rfl ?_))))))))))))
     refine ⟨?_,rfl⟩
     first
     | (have ha:=all_split (x:=x) (by rw [headIs_of hb];assumption);simp_all [AV.ers,AV.er,nameOk,headIs_of,-List.all_eq_true,-List.all_eq_false,-List.any_eq_true,-List.any_eq_false];done)
     | (rw [name_eq (by simp at *;omega) (by simp at *;omega) hb (by assumption) (by assumption)];rfl)
     | (simp_all [AV.ers,AV.er,nameOk,headIs_of,-List.all_eq_true,-List.all_eq_false,-List.any_eq_true,-List.any_eq_false] <;> omega)
    ·refine qp rfl (qp rfl (qg rfl (qp rfl (qg rfl (hcat rfl rfl (cat1 (by simp at *;omega)) (qg rfl (hcat rfl rfl (cat2 (by simp at *;omega)) (qg rfl (hcall rfl rfl rfl (Contains_c _ hQ resText _ (by decide)) ?_)))))))))
     rintro _ _ ⟨rfl,rfl⟩
     rw [cat_bytes,contains_reserved (by assumption)]
     refine qg rfl (qp rfl (qp rfl (qp rfl (qk (kc rfl kn) kn (sqn (eret (fqr rfl ?_)))))))
     refine ⟨?_,rfl⟩
     first
     | (have ha:=all_split (x:=x) (by rw [headIs_of hb];assumption);simp_all [AV.ers,AV.er,nameOk,headIs_of,-List.all_eq_true,-List.all_eq_false,-List.any_eq_true,-List.any_eq_false];done)
     | (rw [name_eq (by simp at *;omega) (by simp at *;omega) hb (by assumption) (by assumption)];rfl)
     | (simp_all [AV.ers,AV.er,nameOk,headIs_of,-List.all_eq_true,-List.all_eq_false,-List.any_eq_true,-List.any_eq_false] <;> omega)
theorem tail_bytes (x:ByteArray):bytes (x.extract 1 x.size)=(bytes x).drop 1:=by
 simp [bytes,List.take_of_length_le]
theorem dXtorName_c (s:Sg) (x:ByteArray):HC p N139_ [Str x] s (fun r s'=>r=[B (xnameOk x)] ∧ s'=s):=by
 refine hcf rfl f139_ rfl ?_
 simp only [chainOf]
 refine eseq (ereg (qp rfl (qk (kc rfl kn) kn (sqn (eseq (ereg (qp rfl (qp rfl (qp rfl (qb ?_))))))))))
 rintro (_ | _) h1
 ·refine qp rfl (qs rfl rfl (by decide) (qs rfl rfl (by decide) (qs rfl rfl (by decide) (qp rfl (qp rfl (qs rfl rfl (by decide) (qs rfl rfl (by decide) (qs rfl rfl (by decide) (qp rfl (qp rfl (qs rfl rfl (by decide) (qs rfl rfl (by decide) (qs rfl rfl (by decide) (qp rfl (qp rfl (qs rfl rfl (by decide) (qs rfl rfl (by decide) (qs rfl rfl (by decide) (qp rfl (qp rfl (qk (kc rfl kn) kn (sqn (eret ?_)))))))))))))))))))))))
  refine fqr rfl ?_
  refine ⟨?_,rfl⟩;simp_all [AV.ers,AV.er,xnameOk,headIs_of,capB,-List.all_eq_true,-List.all_eq_false,-List.any_eq_true,-List.any_eq_false] <;> omega
 ·refine qp rfl (qg rfl (qp rfl (qg rfl (qp rfl (qg rfl (qp rfl (qb ?_)))))))
  rintro (_ | _) h2
  ·refine qp rfl (qp rfl (qs rfl rfl (by decide) (qs rfl rfl (by decide) (qs rfl rfl (by decide) (qp rfl (qp rfl (qs rfl rfl (by decide) (qs rfl rfl (by decide) (qs rfl rfl (by decide) (qp rfl (qp rfl (qs rfl rfl (by decide) (qs rfl rfl (by decide) (qs rfl rfl (by decide) (qp rfl (qp rfl (qk (kc rfl kn) kn (sqn (eret (fqr rfl ?_))))))))))))))))))))
   refine ⟨?_,rfl⟩;simp_all [AV.ers,AV.er,xnameOk,headIs_of,capB,-List.all_eq_true,-List.all_eq_false,-List.any_eq_true,-List.any_eq_false] <;> omega
  ·refine qp rfl (qp rfl (qg rfl (qp rfl (qg rfl ?_))))
   obtain ⟨b,hb⟩:=byte_at (s:=x) (i:=0) (by simp at h1;omega)
   refine hixs rfl rfl (by omega) (by simpa using hb) (qg rfl (qp rfl (qb ?_)))
   rintro (_ | _) h3
   ·refine qp rfl (qp rfl (qs rfl rfl (by decide) (qs rfl rfl (by decide) (qs rfl rfl (by decide) (qp rfl (qp rfl (qs rfl rfl (by decide) (qs rfl rfl (by decide) (qs rfl rfl (by decide) (qp rfl (qp rfl (qk (kc rfl kn) kn (sqn (eret (fqr rfl ?_)))))))))))))))
    refine ⟨?_,rfl⟩;simp_all [AV.ers,AV.er,xnameOk,headIs_of,capB,-List.all_eq_true,-List.all_eq_false,-List.any_eq_true,-List.any_eq_false] <;> omega
   ·refine qp rfl (qp rfl (qg rfl (qp rfl (qg rfl (hixs rfl rfl (by omega) (by simpa using hb) (qg rfl (qp rfl (qb ?_))))))))
    rintro (_ | _) h4
    ·refine qp rfl (qp rfl (qs rfl rfl (by decide) (qs rfl rfl (by decide) (qs rfl rfl (by decide) (qp rfl (qp rfl (qk (kc rfl kn) kn (sqn (eret (fqr rfl ?_))))))))))
     refine ⟨?_,rfl⟩;simp_all [AV.ers,AV.er,xnameOk,headIs_of,capB,-List.all_eq_true,-List.all_eq_false,-List.any_eq_true,-List.any_eq_false] <;> omega
    ·refine qp rfl (qp rfl (qg rfl (qp rfl (qg rfl (hsls (a:=1) rfl rfl rfl (by simp at *;omega) (qg rfl (hcall rfl rfl rfl (drest_c _ _ (by simp at *;omega)) ?_)))))))
     rintro _ _ ⟨rfl,rfl⟩
     rw [tail_bytes]
     refine qp rfl (qp rfl (qk (kc rfl kn) kn (sqn (eret (fqr rfl ?_)))))
     refine ⟨?_,rfl⟩;simp_all [AV.ers,AV.er,xnameOk,headIs_of,capB,-List.all_eq_true,-List.all_eq_false,-List.any_eq_true,-List.any_eq_false] <;> omega
end Go.Sim.Kd
namespace Go.Sim.Kd
open Go Go.Sim
def typesOk (N:Nat) (l:List Arg):Bool:=l.all fun a=>decide (0 ≤ a.ty) && decide (a.ty ≤ N)
def xtorOk (N:Nat) (seen:List ByteArray) (x:Xtor):Bool:=xnameOk x.name && decide (x.args.length ≤ 6) && !(seen.any fun y=>decide (x.name=y)) && typesOk N x.args
def xtorsOk (N:Nat):List ByteArray → List Xtor → Option (List ByteArray)
 | seen,[]=>some seen
 | seen,x :: xs=>if xtorOk N seen x then xtorsOk N (seen ++ [x.name]) xs else none
def declOk (names:List ByteArray) (d:Decl):Bool:=nameOk d.name && decide (1 ≤ d.xtors.length) && decide (d.xtors.length ≤ 6) && !(names.any fun y=>decide (y=d.name))
def declsOk (N:Nat):List ByteArray → List ByteArray → List Decl → Bool
 | _,_,[]=>true
 | names,seen,d :: ds=>declOk names d && (match xtorsOk N seen d.xtors with
   | some seen'=>declsOk N (names ++ [d.name]) seen' ds
   | none=>false)
def declsValid (l:List Decl):Bool:=decide (l.length ≤ 8) && declsOk l.length [] [] l
end Go.Sim.Kd
namespace Go.Sim.Kd
open Go Go.Sim
theorem c1_l {b:Nat} (ds:List Decl) (l:List Arg) (i:Nat) (hi:i ≤ l.length) (hs:l.length ≤ 2 ^ 40) {n:Nat} {v:Nat → Bool} {D:List (Nat × List AV)} {S:Sg} {Q:Ex → Fr → Prop}
 (hS:S.ob b=some (.row [SL 3 (ds.map Decl.enc)])) (hX:∀ j,typesOk ds.length (l.drop i)=true → Q (.exit 0) ⟨upd (upd (upd (upd (upd ((fun _=>none)) 30 (some (.val (B false)))) 29 (some (.val (I j)))) 28 (some (.val (I (l.map Arg.enc).length)))) 27 (some (.val (.slice .none 2 (l.map Arg.enc))))) 2 (some (.val (.ptr b 0))),(fun _=>none),n,v,D,S⟩) (hR:typesOk ds.length (l.drop i)=false → Q .ret ⟨upd ((fun _=>none)) 4 (some (.val (B false))),(fun _=>none),n,v,D,S⟩):EX (callL p) (.loop F138_l1) ⟨upd (upd (upd (upd ((fun _=>none)) 29 (some (.val (I i)))) 28 (some (.val (I (l.map Arg.enc).length)))) 27 (some (.val (.slice .none 2 (l.map Arg.enc))))) 2 (some (.val (.ptr b 0))),(fun _=>none),n,v,D,S⟩ Q:=by
 refine eloop (eseq (ereg (qp rfl (qb ?_))))
 rintro (_ | _) h1
 ·refine qk (kc rfl (kc rfl (kc rfl (kc rfl (kc rfl kn))))) kn (sqn (eseq (ecF rfl (eexit (sqx ?_)))))
  exact hX _ (by rw [List.drop_eq_nil_of_le (by simp at h1 ⊢;omega)];rfl)
 ·refine qk (kc rfl (kc rfl (kc rfl (kc rfl (kc rfl kn))))) kn (sqn (eseq (ecT rfl (eskip (sqn (eseq (eblock (eseq (ereg ?_)))))))))
  have hlt:i < l.length:=by simpa using h1
  obtain ⟨a,ha⟩:=get_of_lt hlt
  have hd:=drop_cons ha
  refine hia (y:=Arg.enc a) rfl rfl (by omega) (by simp [ha]) rfl (hlda rfl rfl (lc rfl (lc rfl (ln rfl))) (hal (dc (dc (dc (dc (dc (dc (dc dn rfl) rfl) rfl) rfl) rfl) rfl) rfl) (hstl rfl rfl rfl rfl (Nat.le_of_ble_eq_true rfl) (lc rfl (lc rfl (ln rfl))) (qk (kc rfl (kc rfl (kc rfl (kc rfl (kc rfl kn))))) (kc rfl kn) (sqn (eseq (ereg (qp rfl (qp rfl (qp rfl (qb ?_)))))))))))
  rintro (_ | _) h2
  ·refine qp rfl (qg rfl (qp rfl (qg rfl (qp rfl (qg rfl (hldo rfl hS rfl ?_))))))
   refine qg rfl (qp rfl (qg rfl (qp rfl (qb ?_))))
   rintro (_ | _) h3
   ·refine qp rfl (qk (kc rfl (kc rfl (kc rfl (kc rfl (kc rfl kn))))) kn (sqn (ecF rfl (eskip (bqn (sqn (ereg (hadd rfl rfl (i64w (by omega)) (qp rfl (qk (kc rfl (kc rfl (kc rfl (kc rfl kn)))) kn ?_))))))))))
    exact c1_l ds l (i + 1) (by omega) hs hS (fun j h=>hX j (by rw [hd];simp_all [typesOk])) (fun h=>hR (by rw [hd];simp_all [typesOk]))
   ·refine qp rfl (qk (kc rfl (kc rfl (kc rfl (kc rfl (kc rfl kn))))) kn (sqn (ecT rfl (eseq (ereg (qp rfl (qk (kc rfl kn) kn (sqn (eret (bqr (sqr ?_)))))))))))
    exact hR (by rw [hd];simp_all [typesOk];try omega)
  ·refine qp rfl (qs rfl rfl (by decide) (qs rfl rfl (by decide) (qs rfl rfl (by decide) (qs rfl rfl (by decide) (qs rfl rfl (by decide) (qp rfl (qk (kc rfl (kc rfl (kc rfl (kc rfl (kc rfl kn))))) kn (sqn (ecT rfl (eseq (ereg (qp rfl (qk (kc rfl kn) kn (sqn (eret (bqr (sqr ?_)))))))))))))))))
   exact hR (by rw [hd];simp_all [typesOk];try omega)
termination_by l.length - i
decreasing_by all_goals omega
theorem any_comm (l:List ByteArray) (x:ByteArray):(l.any fun y=>decide (x=y))=l.any fun y=>decide (y=x):=by
 congr 1
 funext y
 rw [Bool.eq_iff_iff]
 simp only [decide_eq_true_eq]
 exact eq_comm
theorem c1_c (s:Sg) (ds:List Decl) (x:Xtor) (seen:List ByteArray) (a b m:Nat) (hA:s.ob a=some (.row [.map m])) (hB:s.ob b=some (.row [SL 3 (ds.map Decl.enc)])) (hM:s.ob m=some (.map .str (setS seen))) (hbm:b ≠ m):HC p N138_ [x.enc,.ptr a 0,.ptr b 0] s (fun r s'=>r=[B (xtorOk ds.length seen x)] ∧ Chg (·=m) s s' ∧ (xtorOk ds.length seen x=true → s'.ob m=some (.map .str (setS (seen ++ [x.name]))))):=by
 refine hcf rfl f138_ rfl ?_
 simp only [chainOf]
 refine eseq (ereg (hbox (dc (dc (dc dn rfl) rfl) rfl) rfl (lc rfl (lc rfl (ln rfl))) (qp rfl (qk (kc rfl (kc rfl (kc rfl kn))) (kc rfl kn) (sqn (eseq (eseq (ereg (qp rfl (qp rfl (hcall rfl rfl rfl (dXtorName_c _ _) ?_)))))))))))
 rintro _ _ ⟨rfl,rfl⟩
 refine qb ?_
 rintro (_ | _) h1
 ·refine qp rfl (qp rfl (qs rfl rfl (by decide) (qs rfl rfl (by decide) (qs rfl rfl (by decide) (qs rfl rfl (by decide) (qp rfl (qp rfl (qs rfl rfl (by decide) (qs rfl rfl (by decide) (qs rfl rfl (by decide) (qs rfl rfl (by decide) (qp rfl (qk (kc rfl (kc rfl (kc rfl (kc rfl kn)))) (kc rfl kn) (sqn (ecT rfl (eseq (ereg (qp rfl (qk (kc rfl kn) kn (sqn (eret (sqr (fqr rfl ?_)))))))))))))))))))))))
  have hx:xtorOk ds.length seen x=false:=by
   simp_all [xtorOk,any_comm,-List.all_eq_true,-List.all_eq_false,-List.any_eq_true,-List.any_eq_false] <;> omega
  refine ⟨by rw [hx];rfl,by first | exact Chg.refl _ | exact (Chg.refl _).set fun _=>rfl,fun h=>absurd h (by rw [hx];simp)⟩
 ·refine qp rfl (qp rfl (qg rfl (hldo rfl hA rfl ?_)))
  refine qg rfl (qp rfl (qg rfl (qp rfl (qg rfl (hlk rfl rfl rfl hM ?_)))))
  rw [setS_get]
  refine qb ?_
  rintro (_ | _) h2
  ·refine qp rfl (qp rfl (qg rfl (qp rfl (qg rfl (qp rfl (qg rfl (qp rfl (qg rfl (qp rfl (qb ?_))))))))))
   rintro (_ | _) h3
   ·refine qp rfl (qk (kc rfl (kc rfl (kc rfl (kc rfl kn)))) (kc rfl kn) (sqn (ecF rfl (eskip (sqn (eseq (ereg (hldo rfl hA rfl ?_))))))))
    refine qp rfl (qp rfl (hmu rfl rfl rfl rfl hM ?_))
    rw [show (AV.lit (.bool true)).er=B true from rfl,setS_add]
    refine qk (kc rfl (kc rfl kn)) (kc rfl kn) (sqn (eseq (eseq (ereg (qp rfl (qp rfl (qp rfl (qp rfl (qk (kc rfl (kc rfl (kc rfl (kc rfl kn)))) kn (sqn (eblock ?_)))))))))))
    refine c1_l (b:=b) ds x.args 0 (by omega) (by simp at h3;omega) (by first | exact hB | (rw [set_ne hbm];exact hB)) ?_ ?_
    ·intro j ht
     refine bqx (sqn (eseq (ereg (qp rfl (qk (kc rfl kn) kn (sqn (eret (fqr rfl ?_))))))))
     have hx:xtorOk ds.length seen x=true:=by
      simp_all [xtorOk,any_comm,-List.all_eq_true,-List.all_eq_false,-List.any_eq_true,-List.any_eq_false] <;> omega
     refine ⟨by rw [hx];rfl,(Chg.refl _).set fun _=>rfl,fun h=>set_ob⟩
    ·intro ht
     refine bqr (sqr (fqr rfl ?_))
     have hx:xtorOk ds.length seen x=false:=by
      simp_all [xtorOk,any_comm,-List.all_eq_true,-List.all_eq_false,-List.any_eq_true,-List.any_eq_false] <;> omega
     refine ⟨by rw [hx];rfl,by first | exact Chg.refl _ | exact (Chg.refl _).set fun _=>rfl,fun h=>absurd h (by rw [hx];simp)⟩
   ·refine qp rfl (qk (kc rfl (kc rfl (kc rfl (kc rfl kn)))) (kc rfl kn) (sqn (ecT rfl (eseq (ereg (qp rfl (qk (kc rfl kn) kn (sqn (eret (sqr (fqr rfl ?_)))))))))))
    have hx:xtorOk ds.length seen x=false:=by
     simp_all [xtorOk,any_comm,-List.all_eq_true,-List.all_eq_false,-List.any_eq_true,-List.any_eq_false] <;> omega
    refine ⟨by rw [hx];rfl,by first | exact Chg.refl _ | exact (Chg.refl _).set fun _=>rfl,fun h=>absurd h (by rw [hx];simp)⟩
  ·refine qp rfl (qp rfl (qs rfl rfl (by decide) (qs rfl rfl (by decide) (qs rfl rfl (by decide) (qs rfl rfl (by decide) (qp rfl (qk (kc rfl (kc rfl (kc rfl (kc rfl kn)))) (kc rfl kn) (sqn (ecT rfl (eseq (ereg (qp rfl (qk (kc rfl kn) kn (sqn (eret (sqr (fqr rfl ?_)))))))))))))))))
   have hx:xtorOk ds.length seen x=false:=by
    simp_all [xtorOk,any_comm,-List.all_eq_true,-List.all_eq_false,-List.any_eq_true,-List.any_eq_false] <;> omega
   refine ⟨by rw [hx];rfl,by first | exact Chg.refl _ | exact (Chg.refl _).set fun _=>rfl,fun h=>absurd h (by rw [hx];simp)⟩
structure DV (ds:List Decl) (a b m:Nat) (seen:List ByteArray) (S:Sg):Prop where
 hA:S.ob a=some (.row [.map m])
 hB:S.ob b=some (.row [SL 3 (ds.map Decl.enc)])
 hM:S.ob m=some (.map .str (setS seen))
 al:a < S.nx
 bl:b < S.nx
 ml:m < S.nx
 am:a ≠ m
 bm:b ≠ m
theorem DV.step {ds:List Decl} {a b m:Nat} {seen seen':List ByteArray} {S S':Sg} (h:DV ds a b m seen S) (k:Chg (·=m) S S') (hm:S'.ob m=some (.map .str (setS seen'))):DV ds a b m seen' S' :=
 ⟨(k.ob a h.al h.am).trans h.hA,(k.ob b h.bl h.bm).trans h.hB,hm,Nat.lt_of_lt_of_le h.al k.nx,Nat.lt_of_lt_of_le h.bl k.nx,Nat.lt_of_lt_of_le h.ml k.nx,h.am,h.bm⟩
theorem dV_l2 {pa pb pm:Nat} (ds:List Decl) (l:List Xtor) (seen:List ByteArray) (i:Nat) (hi:i ≤ l.length) (hs:l.length ≤ 2 ^ 40) {x3 x16 x17 x18:AV} {n:Nat} {v:Nat → Bool} {D:List (Nat × List AV)} {S:Sg} {Q:Ex → Fr → Prop}
 (hD:DV ds pa pb pm seen S) (hX:∀ S' seen' j,xtorsOk ds.length seen (l.drop i)=some seen' → Chg (·=pm) S S' → DV ds pa pb pm seen' S' → Q (.exit 2) ⟨upd (upd (upd (upd (upd (upd (upd (upd (upd ((fun _=>none)) 51 (some (.val (B false)))) 50 (some (.val (I j)))) 49 (some (.val (I (l.map Xtor.enc).length)))) 48 (some (.val (.slice .none 2 (l.map Xtor.enc))))) 18 (some (.val x18))) 17 (some (.val x17))) 16 (some (.val x16))) 5 (some (.val (.fn N138_ [] [.ptr pa 0,.ptr pb 0])))) 3 (some (.val x3)),(fun _=>none),n,v,D,S'⟩)
 (hR:xtorsOk ds.length seen (l.drop i)=none → ∀ S',Chg (·=pm) S S' → Q .ret ⟨upd ((fun _=>none)) 2 (some (.val (B false))),(fun _=>none),n,v,D,S'⟩):EX (callL p) (.loop F88_l2) ⟨upd (upd (upd (upd (upd (upd (upd (upd ((fun _=>none)) 50 (some (.val (I i)))) 49 (some (.val (I (l.map Xtor.enc).length)))) 48 (some (.val (.slice .none 2 (l.map Xtor.enc))))) 18 (some (.val x18))) 17 (some (.val x17))) 16 (some (.val x16))) 5 (some (.val (.fn N138_ [] [.ptr pa 0,.ptr pb 0])))) 3 (some (.val x3)),(fun _=>none),n,v,D,S⟩ Q:=by
 refine eloop (eseq (ereg (qp rfl (qb ?_))))
 rintro (_ | _) h1
 ·refine qk (kc rfl (kc rfl (kc rfl (kc rfl (kc rfl (kc rfl (kc rfl (kc rfl (kc rfl kn))))))))) kn (sqn (eseq (ecF rfl (eexit (sqx ?_)))))
  exact hX _ _ _ (by rw [List.drop_eq_nil_of_le (by simp at h1 ⊢;omega)];rfl) (Chg.refl _) hD
 ·refine qk (kc rfl (kc rfl (kc rfl (kc rfl (kc rfl (kc rfl (kc rfl (kc rfl (kc rfl kn))))))))) kn (sqn (eseq (ecT rfl (eskip (sqn (eseq (eblock (eseq (ereg ?_)))))))))
  have hlt:i < l.length:=by simpa using h1
  obtain ⟨a,ha⟩:=get_of_lt hlt
  have hd:=drop_cons ha
  refine hia (y:=Xtor.enc a) rfl rfl (by omega) (by simp [ha]) rfl (hlda rfl rfl (lc rfl (lc rfl (ln rfl))) (hal (dc (dc (dc (dc (dc (dc (dc (dc (dc (dc (dc dn rfl) rfl) rfl) rfl) rfl) rfl) rfl) rfl) rfl) rfl) rfl) (hstl rfl rfl rfl rfl (Nat.le_of_ble_eq_true rfl) (lc rfl (lc rfl (ln rfl))) (qk (kc rfl (kc rfl (kc rfl (kc rfl (kc rfl (kc rfl (kc rfl (kc rfl (kc rfl kn))))))))) (kc rfl kn) (sqn (eseq (ereg (qp rfl (hlda rfl rfl (lc rfl (lc rfl (ln rfl))) (hcall rfl rfl rfl (c1_c _ ds a seen pa pb pm hD.hA hD.hB hD.hM hD.bm) ?_))))))))))
  rintro _ S1 ⟨rfl,hc1,hc2⟩
  refine qb ?_
  rintro (_ | _) h2
  ·refine qp rfl (qk (kc rfl (kc rfl (kc rfl (kc rfl (kc rfl (kc rfl (kc rfl (kc rfl (kc rfl kn))))))))) kn (sqn (ecT rfl (eseq (ereg (qp rfl (qk (kc rfl kn) kn (sqn (eret (bqr (sqr ?_)))))))))))
   have hx:xtorOk ds.length seen a=false:=by assumption
   exact hR (by rw [hd];simp [xtorsOk,hx]) _ hc1
  ·refine qp rfl (qk (kc rfl (kc rfl (kc rfl (kc rfl (kc rfl (kc rfl (kc rfl (kc rfl (kc rfl kn))))))))) kn (sqn (ecF rfl (eskip (bqn (sqn (ereg (hadd rfl rfl (i64w (by omega)) (qp rfl (qk (kc rfl (kc rfl (kc rfl (kc rfl (kc rfl (kc rfl (kc rfl (kc rfl kn)))))))) kn ?_))))))))))
   have hx:xtorOk ds.length seen a=true:=by assumption
   exact dV_l2 ds l (seen ++ [a.name]) (i + 1) (by omega) hs (hD.step hc1 (hc2 hx)) (fun S2 seen2 j e c d=>hX S2 seen2 j (by rw [hd];simp only [xtorsOk,hx,if_true];exact e) (hc1.trans c) d) (fun e S2 c=>hR (by rw [hd];simp only [xtorsOk,hx,if_true];exact e) S2 (hc1.trans c))
termination_by l.length - i
decreasing_by all_goals omega
theorem DV.keep {ds:List Decl} {a b m:Nat} {seen:List ByteArray} {S S':Sg} {X:Nat → Prop} (h:DV ds a b m seen S) (k:Chg X S S') (ha:¬ X a) (hb:¬ X b) (hm:¬ X m):DV ds a b m seen S' :=
 ⟨(k.ob a h.al ha).trans h.hA,(k.ob b h.bl hb).trans h.hB,(k.ob m h.ml hm).trans h.hM,Nat.lt_of_lt_of_le h.al k.nx,Nat.lt_of_lt_of_le h.bl k.nx,Nat.lt_of_lt_of_le h.ml k.nx,h.am,h.bm⟩
structure DN (pa pb pm pn:Nat) (names:List ByteArray) (S:Sg):Prop where
 hN:S.ob pn=some (.map .str (setS names))
 nl:pn < S.nx
 na:pa ≠ pn
 nb:pb ≠ pn
 nm:pm ≠ pn
theorem DN.step {pa pb pm pn:Nat} {names names':List ByteArray} {S S':Sg} {X:Nat → Prop} (h:DN pa pb pm pn names S) (k:Chg X S S') (hn:S'.ob pn=some (.map .str (setS names'))):DN pa pb pm pn names' S' :=
 ⟨hn,Nat.lt_of_lt_of_le h.nl k.nx,h.na,h.nb,h.nm⟩
theorem dV_l1 {pa pb pm pn:Nat} (ds:List Decl) (seen:List ByteArray) (i:Nat) (hi:i ≤ ds.length) (hs:ds.length ≤ 2 ^ 40) {n:Nat} {v:Nat → Bool} {D:List (Nat × List AV)} {S:Sg} {Q:Ex → Fr → Prop}
 (hQ:QOK S) (hD:DV ds pa pb pm seen S) (hN:DN pa pb pm pn ((ds.take i).map Decl.name) S) (hX:∀ S' j,declsOk ds.length ((ds.take i).map Decl.name) seen (ds.drop i)=true → Chg (fun j=>j=pm ∨ j=pn) S S' → Q (.exit 0) ⟨upd (upd (upd (upd (upd (upd ((fun _=>none)) 19 (some (.val (B false)))) 18 (some (.val (I j)))) 17 (some (.val (I (ds.map Decl.enc).length)))) 16 (some (.val (.slice .none 3 (ds.map Decl.enc))))) 5 (some (.val (.fn N138_ [] [.ptr pa 0,.ptr pb 0])))) 3 (some (.val (.map pn))),(fun _=>none),n,v,D,S'⟩)
 (hR:declsOk ds.length ((ds.take i).map Decl.name) seen (ds.drop i)=false → ∀ S',Chg (fun j=>j=pm ∨ j=pn) S S' → Q .ret ⟨upd ((fun _=>none)) 2 (some (.val (B false))),(fun _=>none),n,v,D,S'⟩):EX (callL p) (.loop F88_l1) ⟨upd (upd (upd (upd (upd ((fun _=>none)) 18 (some (.val (I i)))) 17 (some (.val (I (ds.map Decl.enc).length)))) 16 (some (.val (.slice .none 3 (ds.map Decl.enc))))) 5 (some (.val (.fn N138_ [] [.ptr pa 0,.ptr pb 0])))) 3 (some (.val (.map pn))),(fun _=>none),n,v,D,S⟩ Q:=by
 refine eloop (eseq (ereg (qp rfl (qb ?_))))
 rintro (_ | _) h1
 ·refine qk (kc rfl (kc rfl (kc rfl (kc rfl (kc rfl (kc rfl kn)))))) kn (sqn (eseq (ecF rfl (eexit (sqx ?_)))))
  exact hX _ _ (by rw [List.drop_eq_nil_of_le (by simp at h1 ⊢;omega)];rfl) (Chg.refl _)
 ·refine qk (kc rfl (kc rfl (kc rfl (kc rfl (kc rfl (kc rfl kn)))))) kn (sqn (eseq (ecT rfl (eskip (sqn (eseq (eblock (eseq (ereg ?_)))))))))
  have hlt:i < ds.length:=by simpa using h1
  obtain ⟨a,ha⟩:=get_of_lt hlt
  have hd:=drop_cons ha
  refine hia (y:=Decl.enc a) rfl rfl (by omega) (by simp [ha]) rfl (hlda rfl rfl (lc rfl (lc rfl (lc rfl (ln rfl)))) (hal (dc (dc (dc (dc (dc (dc (dc (dc dn rfl) rfl) rfl) rfl) rfl) rfl) rfl) rfl) (hstl rfl rfl rfl rfl (Nat.le_of_ble_eq_true rfl) (lc rfl (lc rfl (lc rfl (ln rfl)))) (qk (kc rfl (kc rfl (kc rfl (kc rfl (kc rfl (kc rfl kn)))))) (kc rfl kn) (sqn (eseq (eseq (ereg (qp rfl (qp rfl (hcall rfl rfl rfl (dName_c _ hQ _) ?_)))))))))))
  rintro _ S1 ⟨rfl,rfl⟩
  refine qb ?_
  rintro (_ | _) h2
  ·refine qp rfl (qp rfl (qs rfl rfl (by decide) (qs rfl rfl (by decide) (qs rfl rfl (by decide) (qs rfl rfl (by decide) (qp rfl (qp rfl (qs rfl rfl (by decide) (qs rfl rfl (by decide) (qs rfl rfl (by decide) (qs rfl rfl (by decide) (qp rfl (qp rfl (qs rfl rfl (by decide) (qs rfl rfl (by decide) (qs rfl rfl (by decide) (qs rfl rfl (by decide) (qp rfl (qk (kc rfl (kc rfl (kc rfl (kc rfl (kc rfl (kc rfl (kc rfl kn))))))) (kc rfl kn) (sqn (ecT rfl (eseq (ereg ?_)))))))))))))))))))))))
   refine qp rfl (qk (kc rfl kn) kn (sqn (eret (sqr (bqr (sqr ?_))))))
   have hy:declsOk ds.length ((ds.take i).map Decl.name) seen (ds.drop i)=false:=by
    rw [hd]
    clear hX hR
    simp_all [declsOk,declOk,-List.all_eq_true,-List.all_eq_false,-List.any_eq_true,-List.any_eq_false] <;> omega
   exact hR hy _ (by first | exact Chg.refl _ | exact (Chg.set (Chg.refl _) fun _=>.inr rfl).trans (hc.mono fun j _ h=>.inl h))
  ·refine qp rfl (qp rfl (qg rfl (qp rfl (qg rfl (qp rfl (qg rfl (qp rfl (qg rfl (hlk rfl rfl rfl hN.hN ?_)))))))))
   rw [setS_get]
   refine qb ?_
   rintro (_ | _) h3
   ·refine qp rfl (qp rfl (qg rfl (qp rfl (qg rfl (qp rfl (qg rfl (qp rfl (qg rfl (qp rfl (qb ?_))))))))))
    rintro (_ | _) h4
    ·refine qp rfl (qp rfl (qg rfl (qp rfl (qg rfl (qp rfl (qg rfl (qp rfl (qg rfl (qp rfl (qb ?_))))))))))
     rintro (_ | _) h5
     ·refine qp rfl (qk (kc rfl (kc rfl (kc rfl (kc rfl (kc rfl (kc rfl (kc rfl kn))))))) (kc rfl kn) (sqn (ecF rfl (eskip (sqn (eseq (ereg (qp rfl (qp rfl (qp rfl (hmu rfl rfl rfl rfl hN.hN ?_)))))))))))
      rw [show (AV.lit (.bool true)).er=B true from rfl,setS_add]
      refine qk (kc rfl (kc rfl (kc rfl (kc rfl (kc rfl (kc rfl kn)))))) (kc rfl kn) (sqn (eseq (ereg (qp rfl (qp rfl (qp rfl (qp rfl (qk (kc rfl (kc rfl (kc rfl (kc rfl (kc rfl (kc rfl (kc rfl (kc rfl kn)))))))) kn (sqn (eblock ?_))))))))))
      have hD1:=hD.keep (X:=(·=pn)) (Chg.set (Chg.refl S1) (i:=pn) (o:=.map .str (setS ((ds.take i).map Decl.name ++ [a.name]))) fun _=>rfl) hN.na hN.nb hN.nm
      refine dV_l2 ds a.xtors seen 0 (by omega) (by simp at *;omega) hD1 ?_ ?_
      ·intro S' seen' j hx hc hD'
       refine bqx (bqn (sqn (ereg (hadd rfl rfl (i64w (by omega)) (qp rfl (qk (kc rfl (kc rfl (kc rfl (kc rfl (kc rfl kn))))) kn ?_))))))
       have e:(ds.take (i + 1)).map Decl.name=(ds.take i).map Decl.name ++ [a.name]:=by simp [List.take_add_one,ha]
       have e2:declOk ((ds.take i).map Decl.name) a=true:=by
        clear hX hR
        simp_all [declOk,-List.all_eq_true,-List.all_eq_false,-List.any_eq_true,-List.any_eq_false] <;> omega
       have hy:declsOk ds.length ((ds.take i).map Decl.name) seen (ds.drop i)=declsOk ds.length ((ds.take (i + 1)).map Decl.name) seen' (ds.drop (i + 1)):=by
        rw [hd,e]
        simp only [declsOk,e2,Bool.true_and]
        rw [show xtorsOk ds.length seen a.xtors=some seen' from hx]
       have hcc:Chg (fun j=>j=pm ∨ j=pn) S1 S':=(Chg.set (Chg.refl _) fun _=>.inr rfl).trans (hc.mono fun j _ h=>.inl h)
       have hq1:QOK S':=by unfold QOK;rw [hcc.Q];exact hQ
       exact dV_l1 ds seen' (i + 1) (by omega) hs hq1 hD' (hN.step hcc (by rw [e,hc.ob pn hN.nl (Ne.symm hN.nm)];exact set_ob)) (fun S2 j h c=>hX S2 j (hy.trans h) (hcc.trans c)) (fun h S2 c=>hR (hy.trans h) S2 (hcc.trans c))
      ·intro hx S' hc
       refine bqr (bqr (sqr ?_))
       have hy:declsOk ds.length ((ds.take i).map Decl.name) seen (ds.drop i)=false:=by
        rw [hd]
        clear hX hR
        simp_all [declsOk,declOk,-List.all_eq_true,-List.all_eq_false,-List.any_eq_true,-List.any_eq_false] <;> omega
       exact hR hy _ (by first | exact Chg.refl _ | exact (Chg.set (Chg.refl _) fun _=>.inr rfl).trans (hc.mono fun j _ h=>.inl h))
     ·refine qp rfl (qk (kc rfl (kc rfl (kc rfl (kc rfl (kc rfl (kc rfl (kc rfl kn))))))) (kc rfl kn) (sqn (ecT rfl (eseq (ereg (qp rfl (qk (kc rfl kn) kn (sqn (eret (sqr (bqr (sqr ?_))))))))))))
      have hy:declsOk ds.length ((ds.take i).map Decl.name) seen (ds.drop i)=false:=by
       rw [hd]
       clear hX hR
       simp_all [declsOk,declOk,-List.all_eq_true,-List.all_eq_false,-List.any_eq_true,-List.any_eq_false] <;> omega
      exact hR hy _ (by first | exact Chg.refl _ | exact (Chg.set (Chg.refl _) fun _=>.inr rfl).trans (hc.mono fun j _ h=>.inl h))
    ·refine qp rfl (qp rfl (qs rfl rfl (by decide) (qs rfl rfl (by decide) (qs rfl rfl (by decide) (qs rfl rfl (by decide) (qp rfl (qk (kc rfl (kc rfl (kc rfl (kc rfl (kc rfl (kc rfl (kc rfl kn))))))) (kc rfl kn) (sqn (ecT rfl (eseq (ereg (qp rfl (qk (kc rfl kn) kn (sqn (eret (sqr (bqr (sqr ?_))))))))))))))))))
     have hy:declsOk ds.length ((ds.take i).map Decl.name) seen (ds.drop i)=false:=by
      rw [hd]
      clear hX hR
      simp_all [declsOk,declOk,-List.all_eq_true,-List.all_eq_false,-List.any_eq_true,-List.any_eq_false] <;> omega
     exact hR hy _ (by first | exact Chg.refl _ | exact (Chg.set (Chg.refl _) fun _=>.inr rfl).trans (hc.mono fun j _ h=>.inl h))
   ·refine qp rfl (qp rfl (qs rfl rfl (by decide) (qs rfl rfl (by decide) (qs rfl rfl (by decide) (qs rfl rfl (by decide) (qp rfl (qp rfl (qs rfl rfl (by decide) (qs rfl rfl (by decide) (qs rfl rfl (by decide) (qs rfl rfl (by decide) (qp rfl (qk (kc rfl (kc rfl (kc rfl (kc rfl (kc rfl (kc rfl (kc rfl kn))))))) (kc rfl kn) (sqn (ecT rfl (eseq (ereg (qp rfl (qk (kc rfl kn) kn (sqn (eret (sqr (bqr ?_)))))))))))))))))))))))
    refine sqr ?_
    have hy:declsOk ds.length ((ds.take i).map Decl.name) seen (ds.drop i)=false:=by
     rw [hd]
     clear hX hR
     simp_all [declsOk,declOk,-List.all_eq_true,-List.all_eq_false,-List.any_eq_true,-List.any_eq_false] <;> omega
    exact hR hy _ (by first | exact Chg.refl _ | exact (Chg.set (Chg.refl _) fun _=>.inr rfl).trans (hc.mono fun j _ h=>.inl h))
termination_by ds.length - i
decreasing_by all_goals omega
theorem dv_init (s:Sg) (l:List Decl) :
 let S1:=s.new (.row [SL 3 (l.map Decl.enc)])
 let S2:=S1.new (.map .str fun _=>none)
 let S3:=S2.new (.map .str fun _=>none)
 let S5:=(S3.new (.row [.lit (.map none)])).set S3.nx (.row [.map S2.nx])
 DV l S3.nx s.nx S2.nx [] S5 ∧ DN S3.nx s.nx S2.nx S1.nx [] S5 ∧ Chg (fun j=>s.nx ≤ j) s S5 ∧ S2.nx=s.nx + 2 ∧ S1.nx=s.nx + 1:=by
 refine ⟨⟨?_,?_,?_,?_,?_,?_,?_,?_⟩,⟨?_,?_,?_,?_,?_⟩,?_,rfl,rfl⟩
 all_goals first
  | (simp [Sg.set,Sg.new,upd,setS_nil];done)
  | (simp [Sg.set,Sg.new,upd,setS_nil];omega)
  | (rw [set_ne (by simp only [Sg.new];omega),new_lt (by simp only [Sg.new];omega),new_lt (by simp only [Sg.new];omega),new_lt (by simp only [Sg.new];omega)];exact new_ob)
  | (simp only [Sg.set,Sg.new];omega)
  | (refine Chg.set (Chg.new (Chg.new (Chg.new (Chg.new (Chg.refl s))))) fun _=>?_;simp only [Sg.new];omega)
theorem dValid_c (s:Sg) (hQ:QOK s) (l:List Decl) (hl:l.length ≤ 2 ^ 40):HC p N88_ [SL 3 (l.map Decl.enc)] s (fun r s'=>r=[B (declsValid l)] ∧ Ext s s'):=by
 refine hcf rfl f88_ rfl ?_
 simp only [chainOf]
 refine eseq (ereg (hboxo rfl (lc rfl (ln rfl)) (qp rfl (qk (kc rfl kn) kn (sqn (eseq (eseq (ereg (hldo rfl new_ob rfl ?_)))))))))
 refine qp rfl (qp rfl (qb ?_))
 rintro (_ | _) h1
 ·refine qk (kc rfl (kc rfl kn)) kn (sqn (ecF rfl (eskip (sqn (eseq (ereg (hmkm (hmkm (hall (qp rfl (hsto rfl rfl new_ob rfl (Nat.le_of_ble_eq_true rfl) (by simp) (by rfl) (qk (kc rfl (kc rfl (kc rfl kn))) kn (sqn (eseq (ereg (qp rfl (qp rfl (qk (kc rfl (kc rfl (kc rfl kn))) kn (sqn (eseq (eseq (ereg (hldo rfl (dv_init s l).1.hB rfl ?_)))))))))))))))))))))))
  refine qp rfl (qp rfl (qk (kc rfl (kc rfl (kc rfl (kc rfl (kc rfl kn))))) kn (sqn (eblock ?_))))
  refine dV_l1 l [] 0 (by omega) (by omega) hQ (dv_init s l).1 (dv_init s l).2.1 ?_ ?_
  ·intro S' j hx hc
   refine bqx (sqn (eseq (ereg (qp rfl (qk (kc rfl kn) kn (sqn (eret (fqr rfl ?_))))))))
   have hv:declsValid l=true:=by
    unfold declsValid
    have hx':declsOk l.length [] [] l=true:=hx
    rw [hx'];simp at *;omega
   refine ⟨by rw [hv];rfl,?_⟩
   obtain ⟨_,_,i3,i4,i5⟩:=dv_init s l
   exact (i3.trans (hc.mono fun j _ h=>by rcases h with h | h <;> (rw [h];simp only [Sg.new];omega))).ext fun i h=>h
  ·intro hx S' hc
   refine bqr (sqr (fqr rfl ?_))
   first
   | (have hv:declsValid l=false:=by
       unfold declsValid
       have hx':declsOk l.length [] [] l=false:=hx
       rw [hx'];simp
      refine ⟨by rw [hv];rfl,?_⟩
      obtain ⟨_,_,i3,i4,i5⟩:=dv_init s l
      exact (i3.trans (hc.mono fun j _ h=>by rcases h with h | h <;> (rw [h];simp only [Sg.new];omega))).ext fun i h=>h)
   | (refine ⟨?_,Ext.new⟩;simp_all [AV.ers,AV.er,declsValid];try omega)
 ·refine qk (kc rfl (kc rfl kn)) kn (sqn (ecT rfl (eseq (ereg (qp rfl (qk (kc rfl kn) kn (sqn (eret (sqr (fqr rfl ?_))))))))))
  first
  | (have hv:declsValid l=false:=by
      unfold declsValid
      have hx':declsOk l.length [] [] l=false:=hx
      rw [hx'];simp
     refine ⟨by rw [hv];rfl,?_⟩
     obtain ⟨_,_,i3,i4,i5⟩:=dv_init s l
     exact (i3.trans (hc.mono fun j _ h=>by rcases h with h | h <;> (rw [h];simp only [Sg.new];omega))).ext fun i h=>h)
  | (refine ⟨?_,Ext.new⟩;simp_all [AV.ers,AV.er,declsValid];try omega)
end Go.Sim.Kd
namespace Go.Sim.Kd
open Go Go.Sim
def sideOf (co:Bool):Int:=if co then 1 else 0
def sortOf (x:Int):Int:=if x < 0 ∨ 14 < x then -1 else if x ≤ 4 then 0 else if x ≤ 8 then 1 else 2
def numOk (x:Int):Bool:=decide (0 ≤ x) && decide (x ≤ 1048576)
def leafOp (x:Int):Bool:=decide (x=0) || decide (x=5) || decide (x=1)
def declAt (ds:List Decl) (t:Int):Option Decl:=if 1 ≤ t then ds[(t - 1).toNat]? else none
theorem declAt_none {ds:List Decl} {t:Int} (h:t < 1 ∨ ds.length < t):declAt ds t=none:=by
 unfold declAt
 split
 ·exact List.getElem?_eq_none (by omega)
 ·rfl
theorem declAt_bounds {ds:List Decl} {t:Int} {d:Decl} (h:declAt ds t=some d):1 ≤ t ∧ t ≤ ds.length:=by
 unfold declAt at h
 split at h
 ·rcases Nat.lt_or_ge (t - 1).toNat ds.length with h' | h'
  ·omega
  ·rw [List.getElem?_eq_none h'] at h;cases h
 ·cases h
theorem cside_c (s:Sg) (b:Bool):HC p N143_ [B b] s (fun r s'=>r=[I (sideOf b)] ∧ s'=s):=by
 refine hcf rfl f143_ rfl ?_
 simp only [chainOf]
 refine eseq (ereg (qp rfl (qk (kc rfl kn) kn (sqn (eseq (eseq (ereg (qp rfl (qb ?_)))))))))
 rintro (_ | _) h1
 ·refine qk (kc rfl kn) kn (sqn (ecF rfl (eskip (sqn (eseq (ereg (qp rfl (qk (kc rfl kn) kn (sqn (eret (fqr rfl ?_)))))))))))
  refine ⟨?_,rfl⟩;simp_all [AV.ers,AV.er,sideOf] <;> omega
 ·refine qk (kc rfl kn) kn (sqn (ecT rfl (eseq (ereg (qp rfl (qk (kc rfl kn) kn (sqn (eret (sqr (fqr rfl ?_))))))))))
  refine ⟨?_,rfl⟩;simp_all [AV.ers,AV.er,sideOf] <;> omega
theorem kside_c (s:Sg) (b:Bool):HC p N150_ [B b] s (fun r s'=>r=[I (sideOf b)] ∧ s'=s):=by
 refine hcf rfl f150_ rfl ?_
 simp only [chainOf]
 refine eseq (ereg (qp rfl (qk (kc rfl kn) kn (sqn (eseq (eseq (ereg (qp rfl (qb ?_)))))))))
 rintro (_ | _) h1
 ·refine qk (kc rfl kn) kn (sqn (ecF rfl (eskip (sqn (eseq (ereg (qp rfl (qk (kc rfl kn) kn (sqn (eret (fqr rfl ?_)))))))))))
  refine ⟨?_,rfl⟩;simp_all [AV.ers,AV.er,sideOf] <;> omega
 ·refine qk (kc rfl kn) kn (sqn (ecT rfl (eseq (ereg (qp rfl (qk (kc rfl kn) kn (sqn (eret (sqr (fqr rfl ?_))))))))))
  refine ⟨?_,rfl⟩;simp_all [AV.ers,AV.er,sideOf] <;> omega
theorem number_c (s:Sg) (x:Int):HC p N144_ [I x] s (fun r s'=>r=[B (numOk x)] ∧ s'=s):=by
 refine hcf rfl f144_ rfl ?_
 simp only [chainOf]
 refine eseq (ereg (qp rfl (qk (kc rfl kn) kn (sqn (eseq (ereg (qp rfl (qp rfl (qb ?_)))))))))
 rintro (_ | _) h1
 ·refine qp rfl (qs rfl rfl (by decide) (qs rfl rfl (by decide) (qp rfl (qp rfl (qk (kc rfl kn) kn (sqn (eret (fqr rfl ?_))))))))
  refine ⟨?_,rfl⟩;simp_all [AV.ers,AV.er,numOk] <;> omega
 ·refine qp rfl (qg rfl (qp rfl (qg rfl (qp rfl (qp rfl (qp rfl (qk (kc rfl kn) kn (sqn (eret (fqr rfl ?_))))))))))
  refine ⟨?_,rfl⟩;simp_all [AV.ers,AV.er,numOk] <;> omega
theorem Sort_c (s:Sg) (x:Int):HC p N55_ [I x] s (fun r s'=>r=[I (sortOf x)] ∧ s'=s):=by
 refine hcf rfl f55_ rfl ?_
 simp only [chainOf]
 refine eseq (ereg (qp rfl (qk (kc rfl kn) kn (sqn (eseq (eblock (eseq (ereg (qp rfl (qp rfl (qb ?_)))))))))))
 rintro (_ | _) h1
 ·refine qp rfl (qg rfl (qp rfl (qg rfl (qp rfl (qb ?_)))))
  rintro (_ | _) h2
  ·refine qp rfl (qp rfl (qk (kc rfl (kc rfl kn)) kn (sqn (ecF rfl (eseq (ereg (qp rfl (qp rfl (qb ?_)))))))))
   rintro (_ | _) h3
   ·refine qp rfl (qk (kc rfl (kc rfl kn)) kn (sqn (ecF rfl (eseq (ereg (qp rfl (qp rfl (qb ?_))))))))
    rintro (_ | _) h4
    ·refine qp rfl (qk (kc rfl kn) kn (sqn (ecF rfl (eskip (bqn (sqn (eseq (ereg (qp rfl (qk (kc rfl kn) kn (sqn (eret (fqr rfl ?_)))))))))))))
     refine ⟨?_,rfl⟩;simp [AV.ers,AV.er,sortOf] at *;try omega
    ·refine qp rfl (qk (kc rfl kn) kn (sqn (ecT rfl (eseq (ereg (qp rfl (qk (kc rfl kn) kn (sqn (eret (bqr (sqr (fqr rfl ?_))))))))))))
     refine ⟨?_,rfl⟩;simp [AV.ers,AV.er,sortOf] at *;try omega
   ·refine qp rfl (qk (kc rfl (kc rfl kn)) kn (sqn (ecT rfl (eseq (ereg (qp rfl (qk (kc rfl kn) kn (sqn (eret (bqr (sqr (fqr rfl ?_))))))))))))
    refine ⟨?_,rfl⟩;simp [AV.ers,AV.er,sortOf] at *;try omega
  ·refine qp rfl (qp rfl (qk (kc rfl (kc rfl kn)) kn (sqn (ecT rfl (eseq (ereg (qp rfl (qk (kc rfl kn) kn (sqn (eret (bqr (sqr (fqr rfl ?_)))))))))))))
   refine ⟨?_,rfl⟩;simp [AV.ers,AV.er,sortOf] at *;try omega
 ·refine qp rfl (qs rfl rfl (by decide) (qs rfl rfl (by decide) (qp rfl (qp rfl (qk (kc rfl (kc rfl kn)) kn (sqn (ecT rfl (eseq (ereg (qp rfl (qk (kc rfl kn) kn (sqn (eret (bqr (sqr (fqr rfl ?_))))))))))))))))
  refine ⟨?_,rfl⟩;simp [AV.ers,AV.er,sortOf] at *;try omega
theorem take_map {α β:Type} {g:α → β} {l:List α} {i:Nat} {a:α} (ha:l[i]?=some a):(l.take i).map g ++ [g a]=(l.take (i + 1)).map g:=by simp [List.take_add_one,ha]
theorem sides_l (l:List Arg) (o:Own) (i:Nat) (hi:i ≤ l.length) (hs:l.length ≤ 2 ^ 40) {n:Nat} {v:Nat → Bool} {D:List (Nat × List AV)} {S:Sg} {Q:Ex → Fr → Prop}
 (hc:Can o v) (hX:∀ j n' v' o',Can o' v' → Q (.exit 0) ⟨upd (upd (upd (upd (upd ((fun _=>none)) 9 (some (.val (B false)))) 8 (some (.val (I j)))) 7 (some (.val (I (l.map Arg.enc).length)))) 6 (some (.val (.slice .none 2 (l.map Arg.enc))))) 3 (some (.val (.slice o' 1 (l.map (fun a=>B a.co))))),(fun _=>none),n',v',D,S⟩):EX (callL p) (.loop F93_l1) ⟨upd (upd (upd (upd ((fun _=>none)) 8 (some (.val (I i)))) 7 (some (.val (I (l.map Arg.enc).length)))) 6 (some (.val (.slice .none 2 (l.map Arg.enc))))) 3 (some (.val (.slice o 1 ((l.take i).map (fun a=>B a.co))))),(fun _=>none),n,v,D,S⟩ Q:=by
 refine eloop (eseq (ereg (qp rfl (qb ?_))))
 rintro (_ | _) h1
 ·refine qk (kc rfl (kc rfl (kc rfl (kc rfl (kc rfl kn))))) kn (sqn (eseq (ecF rfl (eexit (sqx ?_)))))
  have he:i=l.length:=by simp at h1;omega
  subst he
  rw [List.take_length]
  exact hX _ _ _ _ hc
 ·refine qk (kc rfl (kc rfl (kc rfl (kc rfl (kc rfl kn))))) kn (sqn (eseq (ecT rfl (eskip (sqn (eseq (eblock (eseq (ereg ?_)))))))))
  have hlt:i < l.length:=by simpa using h1
  obtain ⟨a,ha⟩:=get_of_lt hlt
  have hd:=drop_cons ha
  refine hia (y:=Arg.enc a) rfl rfl (by omega) (by simp [ha]) rfl (hlda rfl rfl (lc rfl (lc rfl (ln rfl))) (hal (dc (dc (dc (dc (dc (dc (dc dn rfl) rfl) rfl) rfl) rfl) rfl) rfl) (hstl rfl rfl rfl rfl (Nat.le_of_ble_eq_true rfl) (lc rfl (lc rfl (ln rfl))) (qk (kc rfl (kc rfl (kc rfl (kc rfl (kc rfl kn))))) (kc rfl kn) (sqn (ereg (qp rfl (qp rfl (qp rfl (hbsl rfl rfl (lc rfl (ln rfl)) (hapC rfl rfl hc (by simp) (by simp;omega) (r:=(l.take (i + 1)).map (fun a=>B a.co)) (by rw [← take_map (g:=fun a=>B a.co) ha];simp_all [AV.ers,AV.er,AV.er,sideOf]) ?_)))))))))))
  intro v1 hc1 _
  refine qp rfl (qk (kc rfl (kc rfl (kc rfl (kc rfl kn)))) kn (bqn (sqn (ereg (hadd rfl rfl (i64w (by omega)) (qp rfl (qk (kc rfl (kc rfl (kc rfl (kc rfl kn)))) kn ?_)))))))
  exact sides_l l (.tip n) (i + 1) (by omega) hs hc1 hX
termination_by l.length - i
decreasing_by all_goals omega
theorem sides_c (s:Sg) (l:List Arg) (hl:l.length ≤ 2 ^ 40):HC p N93_ [SL 2 (l.map Arg.enc)] s (fun r s'=>r=[SL 1 (l.map (fun a=>B a.co))] ∧ s'=s):=by
 refine hcf rfl f93_ rfl ?_
 simp only [chainOf]
 refine eseq (ereg (qp rfl (qk (kc rfl kn) kn (sqn (eseq (ereg (qp rfl (qk (kc rfl (kc rfl kn)) kn (sqn (eseq (eseq (ereg (qp rfl (qp rfl (qp rfl (qk (kc rfl (kc rfl (kc rfl (kc rfl kn)))) kn (sqn (eblock (sides_l l .full 0 (by omega) hl trivial ?_)))))))))))))))))))
 ·intro j n' v' o' hc
  refine bqx (sqn (eseq (ereg (qp rfl (qp rfl (qk (kc rfl kn) kn (sqn (eret (fqr rfl ?_)))))))))
  exact ⟨rfl,rfl⟩
theorem types_l (l:List Arg) (o:Own) (i:Nat) (hi:i ≤ l.length) (hs:l.length ≤ 2 ^ 40) {n:Nat} {v:Nat → Bool} {D:List (Nat × List AV)} {S:Sg} {Q:Ex → Fr → Prop}
 (hc:Can o v) (hX:∀ j n' v' o',Can o' v' → Q (.exit 0) ⟨upd (upd (upd (upd (upd ((fun _=>none)) 9 (some (.val (B false)))) 8 (some (.val (I j)))) 7 (some (.val (I (l.map Arg.enc).length)))) 6 (some (.val (.slice .none 2 (l.map Arg.enc))))) 3 (some (.val (.slice o' 1 (l.map (fun a=>I a.ty))))),(fun _=>none),n',v',D,S⟩):EX (callL p) (.loop F161_l1) ⟨upd (upd (upd (upd ((fun _=>none)) 8 (some (.val (I i)))) 7 (some (.val (I (l.map Arg.enc).length)))) 6 (some (.val (.slice .none 2 (l.map Arg.enc))))) 3 (some (.val (.slice o 1 ((l.take i).map (fun a=>I a.ty))))),(fun _=>none),n,v,D,S⟩ Q:=by
 refine eloop (eseq (ereg (qp rfl (qb ?_))))
 rintro (_ | _) h1
 ·refine qk (kc rfl (kc rfl (kc rfl (kc rfl (kc rfl kn))))) kn (sqn (eseq (ecF rfl (eexit (sqx ?_)))))
  have he:i=l.length:=by simp at h1;omega
  subst he
  rw [List.take_length]
  exact hX _ _ _ _ hc
 ·refine qk (kc rfl (kc rfl (kc rfl (kc rfl (kc rfl kn))))) kn (sqn (eseq (ecT rfl (eskip (sqn (eseq (eblock (eseq (ereg ?_)))))))))
  have hlt:i < l.length:=by simpa using h1
  obtain ⟨a,ha⟩:=get_of_lt hlt
  have hd:=drop_cons ha
  refine hia (y:=Arg.enc a) rfl rfl (by omega) (by simp [ha]) rfl (hlda rfl rfl (lc rfl (lc rfl (ln rfl))) (hal (dc (dc (dc (dc (dc (dc (dc dn rfl) rfl) rfl) rfl) rfl) rfl) rfl) (hstl rfl rfl rfl rfl (Nat.le_of_ble_eq_true rfl) (lc rfl (lc rfl (ln rfl))) (qk (kc rfl (kc rfl (kc rfl (kc rfl (kc rfl kn))))) (kc rfl kn) (sqn (ereg (qp rfl (qp rfl (qp rfl (hbsl rfl rfl (lc rfl (ln rfl)) (hapC rfl rfl hc (by simp) (by simp;omega) (r:=(l.take (i + 1)).map (fun a=>I a.ty)) (by rw [← take_map (g:=fun a=>I a.ty) ha];simp_all [AV.ers,AV.er,AV.er,sideOf]) ?_)))))))))))
  intro v1 hc1 _
  refine qp rfl (qk (kc rfl (kc rfl (kc rfl (kc rfl kn)))) kn (bqn (sqn (ereg (hadd rfl rfl (i64w (by omega)) (qp rfl (qk (kc rfl (kc rfl (kc rfl (kc rfl kn)))) kn ?_)))))))
  exact types_l l (.tip n) (i + 1) (by omega) hs hc1 hX
termination_by l.length - i
decreasing_by all_goals omega
theorem types_c (s:Sg) (l:List Arg) (hl:l.length ≤ 2 ^ 40):HC p N161_ [SL 2 (l.map Arg.enc)] s (fun r s'=>r=[SL 1 (l.map (fun a=>I a.ty))] ∧ s'=s):=by
 refine hcf rfl f161_ rfl ?_
 simp only [chainOf]
 refine eseq (ereg (qp rfl (qk (kc rfl kn) kn (sqn (eseq (ereg (qp rfl (qk (kc rfl (kc rfl kn)) kn (sqn (eseq (eseq (ereg (qp rfl (qp rfl (qp rfl (qk (kc rfl (kc rfl (kc rfl (kc rfl kn)))) kn (sqn (eblock (types_l l .full 0 (by omega) hl trivial ?_)))))))))))))))))))
 ·intro j n' v' o' hc
  refine bqx (sqn (eseq (ereg (qp rfl (qp rfl (qk (kc rfl kn) kn (sqn (eret (fqr rfl ?_)))))))))
  exact ⟨rfl,rfl⟩
end Go.Sim.Kd
namespace Go.Sim.Kd
open Go Go.Sim
mutual
def nAll:Node → Nat
 | .mk _ _ _ args brs=>1 + nAlls args + bAlls brs
def nAlls:List Node → Nat
 | []=>0
 | a :: as=>nAll a + nAlls as
def bAll:Br → Nat
 | .mk _ _ body=>nAll body
def bAlls:List Br → Nat
 | []=>0
 | a :: as=>bAll a + bAlls as
end
theorem nAlls_eq (l:List Node):nAlls l=szL nAll l:=by induction l with
 | nil=>rfl
 | cons a l ih=>simp [nAlls,szL,ih]
theorem bAll_eq (b:Br):bAll b=nAll b.body:=by cases b;rfl
theorem bAlls_eq (l:List Br):bAlls l=szL (fun b=>nAll b.body) l:=by induction l with
 | nil=>rfl
 | cons a l ih=>simp [bAlls,szL,ih,bAll_eq]
theorem nAll_eq (a:Node):nAll a=1 + szL nAll a.args + szL (fun b=>nAll b.body) a.brs:=by
 cases a
 simp only [nAll,nAlls_eq,bAlls_eq]
 rfl
theorem szL_drop {α:Type} {f:α → Nat} {l:List α} {i:Nat} {a:α} (h:l[i]?=some a):szL f (l.drop i)=f a + szL f (l.drop (i + 1)):=by rw [drop_cons h];rfl
theorem szL_end {α:Type} {f:α → Nat} {l:List α} {i:Nat} (h:l.length ≤ i):szL f (l.drop i)=0:=by rw [List.drop_eq_nil_of_le h];rfl
def LeftC (b:Node):Prop:=∀ (s:Sg) (m:Int),1 ≤ m → m ≤ 2 ^ 40 → HC p N53_ [.agg b.cs,I m] s (fun r s'=>r=[I (max (m - nAll b) 0)] ∧ s'=s)
theorem left_l1 (a:Node) (H:∀ b ∈ a.args,LeftC b) (hs:a.args.length ≤ 2 ^ 40) (i:Nat) (hi:i ≤ a.args.length) (m:Int) (hm:0 ≤ m) (hm2:m ≤ 2 ^ 40) {n:Nat} {v:Nat → Bool} {D:List (Nat × List AV)} {S:Sg} {Q:Ex → Fr → Prop}
 (hX:∀ j k,k=max (m - szL nAll (a.args.drop i)) 0 → Q (.exit 0) ⟨upd (upd (upd (upd ((fun _=>none)) 17 (some (.val (B false)))) 5 (some (.val (I j)))) 2 (some (.loc 2 0))) 1 (some (.val (I k))),upd ((fun _=>none)) 2 (some (a.cs)),n,v,D,S⟩):EX (callL p) (.loop F53_l1) ⟨upd (upd (upd ((fun _=>none)) 5 (some (.val (I i)))) 2 (some (.loc 2 0))) 1 (some (.val (I m))),upd ((fun _=>none)) 2 (some (a.cs)),n,v,D,S⟩ Q:=by
 refine eloop (eseq (eseq (ereg (qp rfl (qp rfl (qp rfl (qp rfl (qp rfl (qb ?_)))))))))
 rintro (_ | _) h1
 ·refine qp rfl (qs rfl rfl (by decide) (qs rfl rfl (by decide) (qp rfl (qk (kc rfl (kc rfl (kc rfl (kc rfl kn)))) (kc rfl kn) (sqn (ecF rfl (eexit (sqx ?_))))))))
  first
  | exact hX _ _ (by rw [szL_end (by simp at h1;omega)];omega)
  | exact hX _ _ (by simp at *;omega)
 ·refine qp rfl (qg rfl (qp rfl (qg rfl (qp rfl (qb ?_)))))
  rintro (_ | _) h2
  ·refine qp rfl (qk (kc rfl (kc rfl (kc rfl (kc rfl kn)))) (kc rfl kn) (sqn (ecF rfl (eexit (sqx ?_)))))
   first
   | exact hX _ _ (by rw [szL_end (by simp at h1;omega)];omega)
   | exact hX _ _ (by simp at *;omega)
  ·refine qp rfl (qk (kc rfl (kc rfl (kc rfl (kc rfl kn)))) (kc rfl kn) (sqn (ecT rfl (eskip (sqn (eseq (eblock (ereg (qp rfl (qp rfl (qp rfl ?_)))))))))))
   have hlt:i < a.args.length:=by simpa using h1
   have hm1:1 ≤ m:=by simp at *;omega
   obtain ⟨b,hb⟩:=get_of_lt hlt
   refine hia (y:=.agg (b.cs)) rfl rfl (by omega) (by simp [hb,Node.enc_eq]) rfl (hlda rfl rfl (lc rfl (lc rfl (lc rfl (lc rfl (lc rfl (ln rfl)))))) (qp rfl (hcall rfl rfl rfl (H b (List.mem_of_getElem? hb) _ m hm1 hm2) ?_)))
   rintro _ _ ⟨rfl,rfl⟩
   refine qp rfl (qk (kc rfl (kc rfl (kc rfl kn))) (kc rfl kn) (bqn (sqn (ereg (qp rfl (hadd rfl rfl (i64w (by omega)) (qp rfl (qk (kc rfl (kc rfl (kc rfl kn))) (kc rfl kn) ?_))))))))
   exact left_l1 a H hs (i + 1) (by omega) _ (by omega) (by omega) (fun j k h=>hX j k (by rw [szL_drop hb,h];omega))
termination_by a.args.length - i
decreasing_by all_goals omega
theorem left_l2 (a:Node) (H:∀ b ∈ a.brs,LeftC b.body) (hs:a.brs.length ≤ 2 ^ 40) (i:Nat) (hi:i ≤ a.brs.length) (m:Int) (hm:0 ≤ m) (hm2:m ≤ 2 ^ 40) {n:Nat} {v:Nat → Bool} {D:List (Nat × List AV)} {S:Sg} {Q:Ex → Fr → Prop}
 (hX:∀ j k,k=max (m - szL (fun b=>nAll b.body) (a.brs.drop i)) 0 → Q (.exit 2) ⟨upd (upd (upd (upd ((fun _=>none)) 35 (some (.val (B false)))) 6 (some (.val (I j)))) 2 (some (.loc 2 0))) 1 (some (.val (I k))),upd ((fun _=>none)) 2 (some (a.cs)),n,v,D,S⟩):EX (callL p) (.loop F53_l2) ⟨upd (upd (upd ((fun _=>none)) 6 (some (.val (I i)))) 2 (some (.loc 2 0))) 1 (some (.val (I m))),upd ((fun _=>none)) 2 (some (a.cs)),n,v,D,S⟩ Q:=by
 refine eloop (eseq (eseq (ereg (qp rfl (qp rfl (qp rfl (qp rfl (qp rfl (qb ?_)))))))))
 rintro (_ | _) h1
 ·refine qp rfl (qs rfl rfl (by decide) (qs rfl rfl (by decide) (qp rfl (qk (kc rfl (kc rfl (kc rfl (kc rfl kn)))) (kc rfl kn) (sqn (ecF rfl (eexit (sqx ?_))))))))
  first
  | exact hX _ _ (by rw [szL_end (by simp at h1;omega)];omega)
  | exact hX _ _ (by simp at *;omega)
 ·refine qp rfl (qg rfl (qp rfl (qg rfl (qp rfl (qb ?_)))))
  rintro (_ | _) h2
  ·refine qp rfl (qk (kc rfl (kc rfl (kc rfl (kc rfl kn)))) (kc rfl kn) (sqn (ecF rfl (eexit (sqx ?_)))))
   first
   | exact hX _ _ (by rw [szL_end (by simp at h1;omega)];omega)
   | exact hX _ _ (by simp at *;omega)
  ·refine qp rfl (qk (kc rfl (kc rfl (kc rfl (kc rfl kn)))) (kc rfl kn) (sqn (ecT rfl (eskip (sqn (eseq (eblock (ereg (qp rfl (qp rfl (qp rfl ?_)))))))))))
   have hlt:i < a.brs.length:=by simpa using h1
   have hm1:1 ≤ m:=by simp at *;omega
   obtain ⟨b,hb⟩:=get_of_lt hlt
   refine hia (y:=.agg (ints b.vars :: bools b.co :: b.body.cs)) rfl rfl (by omega) (by simp [hb,Br.enc_eq]) rfl (qp rfl (hlda rfl rfl (lc rfl (lc rfl (lc rfl (lc rfl (lc rfl (ln rfl)))))) (qp rfl (hcall rfl rfl rfl (H b (List.mem_of_getElem? hb) _ m hm1 hm2) ?_))))
   rintro _ _ ⟨rfl,rfl⟩
   refine qp rfl (qk (kc rfl (kc rfl (kc rfl kn))) (kc rfl kn) (bqn (sqn (ereg (qp rfl (hadd rfl rfl (i64w (by omega)) (qp rfl (qk (kc rfl (kc rfl (kc rfl kn))) (kc rfl kn) ?_))))))))
   exact left_l2 a H hs (i + 1) (by omega) _ (by omega) (by omega) (fun j k h=>hX j k (by rw [szL_drop hb,h];omega))
termination_by a.brs.length - i
decreasing_by all_goals omega
theorem left_c0 (a:Node) (hz:a.sz ≤ 2 ^ 40) (H1:∀ b ∈ a.args,LeftC b) (H2:∀ b ∈ a.brs,LeftC b.body) (s:Sg) (m:Int) (h1:1 ≤ m) (h2:m ≤ 2 ^ 40):HC p N53_ [.agg a.cs,I m] s (fun r s'=>r=[I (max (m - nAll a) 0)] ∧ s'=s):=by
 refine hcf rfl f53_ rfl ?_
 simp only [chainOf]
 refine eseq (ereg (hbox (dc (dc dn rfl) rfl) rfl (lc rfl (lc rfl (lc rfl (lc rfl (lc rfl (ln rfl)))))) (qp rfl (qk (kc rfl (kc rfl kn)) (kc rfl kn) (sqn (eseq (ereg (qp rfl (hsub rfl rfl (i64w (by omega)) (qp rfl (qk (kc rfl (kc rfl kn)) (kc rfl kn) (sqn (eseq (eseq (ereg (qp rfl (qk (kc rfl (kc rfl (kc rfl kn))) (kc rfl kn) (sqn (eblock (left_l1 a H1 (by have:=a.sz_args;omega) 0 (by omega) _ (by omega) (by omega) ?_))))))))))))))))))))
 ·intro j k hk
  refine bqx (sqn (eseq (eseq (ereg (qp rfl (qk (kc rfl (kc rfl (kc rfl kn))) (kc rfl kn) (sqn (eblock (left_l2 a H2 (by have:=a.sz_brs;omega) 0 (by omega) _ (by omega) (by omega) ?_)))))))))
  ·intro j q hq
   refine bqx (sqn (eseq (ereg (qp rfl (qp rfl (qp rfl (qk (kc rfl kn) kn (sqn (eret (fqr rfl ?_))))))))))
   have e:=nAll_eq a
   simp only [List.drop_zero] at hk hq
   refine ⟨congrArg (fun x=>[I x]) ?_,rfl⟩
   show (if (0:Int) > q then 0 else q)=_
   split <;> omega
theorem left_c (a:Node) (hz:a.sz ≤ 2 ^ 40):LeftC a:=by
 induction a using Node.ind with
 | h a ih1 ih2 =>
   exact left_c0 a hz (fun b hb=>ih1 b hb (by have:=Node.sz_arg hb;omega)) (fun b hb=>ih2 b hb (by have:=Node.sz_br hb;have:=b.sz_body;omega))
theorem Fits_c (s:Sg) (a:Node) (hz:a.sz ≤ 2 ^ 40) (m:Int) (h0:0 ≤ m) (hm:m < 2 ^ 40):HC p N15_ [.agg a.cs,I m] s (fun r s'=>r=[B (decide ((nAll a:Int) ≤ m))] ∧ s'=s):=by
 refine hcf rfl f15_ rfl ?_
 simp only [chainOf]
 refine eseq (ereg (hbox (dc (dc dn rfl) rfl) rfl (lc rfl (lc rfl (lc rfl (lc rfl (lc rfl (ln rfl)))))) (qp rfl (qk (kc rfl (kc rfl kn)) (kc rfl kn) (sqn (eseq (ereg (hlda rfl rfl (lc rfl (lc rfl (lc rfl (lc rfl (lc rfl (ln rfl)))))) (qp rfl (hadd rfl rfl (i64w (by omega)) (hcall rfl rfl rfl (left_c a hz _ _ (by omega) (by omega)) ?_)))))))))))
 rintro _ _ ⟨rfl,rfl⟩
 refine qp rfl (qp rfl (qk (kc rfl kn) kn (sqn (eret (fqr rfl ?_)))))
 refine ⟨congrArg (fun x=>[B x]) ?_,rfl⟩
 rw [Bool.eq_iff_iff]
 simp
 omega
theorem fun_sz {l:List CFun} {i:Nat} {a:CFun} (ha:l[i]?=some a) (hz:szL CFun.sz l ≤ 2 ^ 40):a.body.sz ≤ 2 ^ 40:=by
 have h1:=szL_mem (f:=CFun.sz) (List.mem_of_getElem? ha)
 have h2:a.body.sz ≤ a.sz:=by unfold CFun.sz;omega
 omega
theorem Few_l (l:List CFun) (m:Int) (h0:0 ≤ m) (hm:m < 2 ^ 40) (hz:szL CFun.sz l ≤ 2 ^ 40) (i:Nat) (hi:i ≤ l.length) (hs:l.length ≤ 2 ^ 40) {n:Nat} {v:Nat → Bool} {D:List (Nat × List AV)} {S:Sg} {Q:Ex → Fr → Prop}
 (hX:∀ j,((l.drop i).all fun f=>decide ((nAll f.body:Int) ≤ m))=true → Q (.exit 0) ⟨upd (upd (upd (upd (upd ((fun _=>none)) 21 (some (.val (B false)))) 20 (some (.val (I j)))) 19 (some (.val (I (l.map CFun.enc).length)))) 18 (some (.val (.slice .none 8 (l.map CFun.enc))))) 1 (some (.val (I m))),(fun _=>none),n,v,D,S⟩) (hR:((l.drop i).all fun f=>decide ((nAll f.body:Int) ≤ m))=false → Q .ret ⟨upd ((fun _=>none)) 4 (some (.val (B false))),(fun _=>none),n,v,D,S⟩):EX (callL p) (.loop F10_l1) ⟨upd (upd (upd (upd ((fun _=>none)) 20 (some (.val (I i)))) 19 (some (.val (I (l.map CFun.enc).length)))) 18 (some (.val (.slice .none 8 (l.map CFun.enc))))) 1 (some (.val (I m))),(fun _=>none),n,v,D,S⟩ Q:=by
 refine eloop (eseq (ereg (qp rfl (qb ?_))))
 rintro (_ | _) h1
 ·refine qk (kc rfl (kc rfl (kc rfl (kc rfl (kc rfl kn))))) kn (sqn (eseq (ecF rfl (eexit (sqx ?_)))))
  exact hX _ (by rw [List.drop_eq_nil_of_le (by simp at h1 ⊢;omega)];rfl)
 ·refine qk (kc rfl (kc rfl (kc rfl (kc rfl (kc rfl kn))))) kn (sqn (eseq (ecT rfl (eskip (sqn (eseq (eblock (eseq (ereg ?_)))))))))
  have hlt:i < l.length:=by simpa using h1
  obtain ⟨a,ha⟩:=get_of_lt hlt
  have hd:=drop_cons ha
  refine hia (y:=.agg (Str a.name :: encArgs a.params :: ints a.vars :: a.body.cs)) rfl rfl (by omega) (by simp [ha,Node.enc_eq,Br.enc_eq,CFun.enc_eq]) rfl (hlda rfl rfl (lc rfl (lc rfl (lc rfl (lc rfl (lc rfl (lc rfl (lc rfl (lc rfl (ln rfl))))))))) (hal (dc (dc (dc (dc (dc (dc (dc dn rfl) rfl) rfl) rfl) rfl) rfl) rfl) (hstl rfl rfl rfl rfl (Nat.le_of_ble_eq_true rfl) (lc rfl (lc rfl (lc rfl (lc rfl (lc rfl (lc rfl (lc rfl (lc rfl (ln rfl))))))))) (qk (kc rfl (kc rfl (kc rfl (kc rfl (kc rfl kn))))) (kc rfl kn) (sqn (eseq (ereg (qp rfl (hlda rfl rfl (lc rfl (lc rfl (lc rfl (lc rfl (lc rfl (ln rfl)))))) (qp rfl (hcall rfl rfl rfl (Fits_c _ a.body (fun_sz ha hz) m h0 hm) ?_)))))))))))
  rintro _ _ ⟨rfl,rfl⟩
  refine qb ?_
  rintro (_ | _) h2
  ·refine qp rfl (qk (kc rfl (kc rfl (kc rfl (kc rfl (kc rfl kn))))) kn (sqn (ecT rfl (eseq (ereg (qp rfl (qk (kc rfl kn) kn (sqn (eret (bqr (sqr ?_)))))))))))
   exact hR (by rw [hd,List.all_cons,h2];rfl)
  ·refine qp rfl (qk (kc rfl (kc rfl (kc rfl (kc rfl (kc rfl kn))))) kn (sqn (ecF rfl (eskip (bqn (sqn (ereg (hadd rfl rfl (i64w (by omega)) (qp rfl (qk (kc rfl (kc rfl (kc rfl (kc rfl kn)))) kn ?_))))))))))
   exact Few_l l m h0 hm hz (i + 1) (by omega) hs (fun j h=>hX j (by rw [hd];simp_all)) (fun h=>hR (by rw [hd];simp_all))
termination_by l.length - i
decreasing_by all_goals omega
def fewOk (c:Core) (m:Int):Bool:=decide (c.decls.length ≤ 40) && decide (c.funs.length ≤ 40) && c.funs.all fun f=>decide ((nAll f.body:Int) ≤ m)
def Core.cs (c:Core):List AV:=[SL 3 (c.decls.map Decl.enc),SL 8 (c.funs.map CFun.enc)]
theorem CFun.sz_pos (f:CFun):1 ≤ f.sz:=by unfold CFun.sz;omega
theorem Few_c (s:Sg) (c:Core) (hz:c.sz ≤ 2 ^ 40) (m:Int) (h0:0 ≤ m) (hm:m < 2 ^ 40):HC p N10_ [.agg (Core.cs c),I m] s (fun r s'=>r=[B (fewOk c m)] ∧ s'=s):=by
 refine hcf rfl f10_ rfl ?_
 simp only [chainOf]
 refine eseq (ereg (hbox (dc (dc dn rfl) rfl) rfl (lc rfl (lc rfl (ln rfl))) (qp rfl (qk (kc rfl (kc rfl kn)) (kc rfl kn) (sqn (eseq (eseq (ereg (qp rfl (qp rfl (qp rfl (qp rfl (qb ?_)))))))))))))
 rintro (_ | _) h1
 ·refine qp rfl (qg rfl (qp rfl (qg rfl (qp rfl (qg rfl (qp rfl (qg rfl (qp rfl (qb ?_)))))))))
  rintro (_ | _) h2
  ·refine qp rfl (qk (kc rfl (kc rfl (kc rfl kn))) (kc rfl kn) (sqn (ecF rfl (eskip (sqn (eseq (eseq (ereg (qp rfl (qp rfl (qp rfl (qp rfl (qk (kc rfl (kc rfl (kc rfl (kc rfl kn)))) kn (sqn (eblock ?_)))))))))))))))
   refine Few_l c.funs m h0 hm (by unfold Core.sz at hz;omega) 0 (by omega) (by have:=szL_len (f:=CFun.sz) (l:=c.funs) CFun.sz_pos;unfold Core.sz at hz;omega) ?_ ?_
   ·intro j hk
    refine bqx (sqn (eseq (ereg (qp rfl (qk (kc rfl kn) kn (sqn (eret (fqr rfl ?_))))))))
    refine ⟨congrArg (fun x=>[B x]) ?_,rfl⟩
    simp_all [fewOk,-List.all_eq_true,-List.all_eq_false] <;> omega
   ·intro hk
    refine bqr (sqr (fqr rfl ?_))
    refine ⟨congrArg (fun x=>[B x]) ?_,rfl⟩
    simp_all [fewOk,-List.all_eq_true,-List.all_eq_false] <;> omega
  ·refine qp rfl (qk (kc rfl (kc rfl (kc rfl kn))) (kc rfl kn) (sqn (ecT rfl (eseq (ereg (qp rfl (qk (kc rfl kn) kn (sqn (eret (sqr (fqr rfl ?_)))))))))))
   refine ⟨congrArg (fun x=>[B x]) ?_,rfl⟩
   simp_all [fewOk,-List.all_eq_true,-List.all_eq_false] <;> omega
 ·refine qp rfl (qs rfl rfl (by decide) (qs rfl rfl (by decide) (qs rfl rfl (by decide) (qs rfl rfl (by decide) (qp rfl (qk (kc rfl (kc rfl (kc rfl kn))) (kc rfl kn) (sqn (ecT rfl (eseq (ereg (qp rfl (qk (kc rfl kn) kn (sqn (eret (sqr (fqr rfl ?_))))))))))))))))
  refine ⟨congrArg (fun x=>[B x]) ?_,rfl⟩
  simp_all [fewOk,-List.all_eq_true,-List.all_eq_false] <;> omega
end Go.Sim.Kd
namespace Go.Sim.Kd
open Go Go.Sim
def mxL {α:Type} (f:α → Nat):List α → Nat
 | []=>0
 | a :: as=>max (f a) (mxL f as)
mutual
def nNodes:Node → Nat
 | .mk op _ _ args brs=>if leafOp op then 1 else 1 + nNodess args + bNodess brs
def nNodess:List Node → Nat
 | []=>0
 | a :: as=>nNodes a + nNodess as
def bNodes:Br → Nat
 | .mk _ _ body=>nNodes body
def bNodess:List Br → Nat
 | []=>0
 | a :: as=>bNodes a + bNodess as
end
mutual
def nDepth:Node → Nat
 | .mk op _ _ args brs=>if leafOp op then 1 else max (nDepths args) (bDepths brs) + 1
def nDepths:List Node → Nat
 | []=>0
 | a :: as=>max (nDepth a) (nDepths as)
def bDepth:Br → Nat
 | .mk _ _ body=>nDepth body
def bDepths:List Br → Nat
 | []=>0
 | a :: as=>max (bDepth a) (bDepths as)
end
theorem nNodess_eq (l:List Node):nNodess l=szL nNodes l:=by induction l with
 | nil=>rfl
 | cons a l ih=>simp [nNodess,szL,ih]
theorem bNodes_eq (b:Br):bNodes b=nNodes b.body:=by cases b;rfl
theorem bNodess_eq (l:List Br):bNodess l=szL (fun b=>nNodes b.body) l:=by induction l with
 | nil=>rfl
 | cons a l ih=>simp [bNodess,szL,ih,bNodes_eq]
theorem nNodes_eq (a:Node):nNodes a=if leafOp a.op then 1 else 1 + szL nNodes a.args + szL (fun b=>nNodes b.body) a.brs:=by
 cases a
 simp only [nNodes,nNodess_eq,bNodess_eq]
 rfl
theorem nDepths_eq (l:List Node):nDepths l=mxL nDepth l:=by induction l with
 | nil=>rfl
 | cons a l ih=>simp [nDepths,mxL,ih]
theorem bDepth_eq (b:Br):bDepth b=nDepth b.body:=by cases b;rfl
theorem bDepths_eq (l:List Br):bDepths l=mxL (fun b=>nDepth b.body) l:=by induction l with
 | nil=>rfl
 | cons a l ih=>simp [bDepths,mxL,ih,bDepth_eq]
theorem nDepth_eq (a:Node):nDepth a=if leafOp a.op then 1 else max (mxL nDepth a.args) (mxL (fun b=>nDepth b.body) a.brs) + 1:=by
 cases a
 simp only [nDepth,nDepths_eq,bDepths_eq]
 rfl
variable {a0:Node}
end Go.Sim.Kd
namespace Go.Sim.Kd
open Go Go.Sim
def typedOk (ds:List Decl) (t:Int):Bool:=decide (0 ≤ t) && decide (t ≤ ds.length)
def headOf (ds:List Decl) (fs:List CFun) (op n ty:Int):Option (List Int × List Xtor) :=
 if op=0 ∨ op=5 then (if ty=0 ∧ numOk n=true then some ([],[]) else none)
 else if op=1 then (if ty=0 then some ([],[]) else none)
 else if op=2 ∨ op=6 then (match declAt ds ty with
  | some d=>if d.codata=decide (op=6) ∧ 0 ≤ n then (d.xtors[n.toNat]?).map fun x=>(x.args.map fun a=>sideOf a.co,[]) else none
  | none=>none)
 else if op=3 ∨ op=7 then (if typedOk ds ty=true ∧ numOk n=true then some ([2],[]) else none)
 else if op=4 ∨ op=8 then (match declAt ds ty with
  | some d=>if d.codata=decide (op=4) ∧ n=0 then some ([],d.xtors) else none
  | none=>none)
 else if op=9 then (if typedOk ds ty=true ∧ n=0 then some ([0,1],[]) else none)
 else if op=10 then (if ty=0 ∧ 0 ≤ n ∧ n ≤ 6 then some ([0,0,1],[]) else none)
 else if op=11 then (if ty=0 ∧ n=0 then some ([0,2,2],[]) else none)
 else if op=12 then (if ty=0 ∧ n=0 then some ([0,2],[]) else none)
 else if op=13 then (if ty=0 ∧ 0 ≤ n then (fs[n.toNat]?).map fun f=>(f.params.map fun a=>sideOf a.co,[]) else none)
 else if op=14 then (if ty=0 ∧ n=0 then some ([0],[]) else none)
 else none
def ArgsR (h:Option (List Int × List Xtor)) (w:List Int) (k:Int) (ok:Bool):Prop:=match h with
 | some (want,xs)=>ok=true ∧ w=want.map (· + 1) ∧ k=xs.length
 | none=>ok=false
section
variable {ds:List Decl} {fs:List CFun} {op n ty:Int}
theorem head_var (h:decide (op=0 ∨ op=5)=true):headOf ds fs op n ty=if ty=0 ∧ numOk n=true then some ([],[]) else none:=by
 unfold headOf;rw [if_pos (by simpa using h)]
theorem head_int (h:decide (op=1)=true):headOf ds fs op n ty=if ty=0 then some ([],[]) else none:=by
 have:op=1:=by simpa using h
 subst this;simp [headOf]
theorem head_xtor (h:decide (op=2 ∨ op=6)=true):headOf ds fs op n ty=(match declAt ds ty with
 | some d=>if d.codata=decide (op=6) ∧ 0 ≤ n then (d.xtors[n.toNat]?).map fun x=>(x.args.map fun a=>sideOf a.co,[]) else none
 | none=>none):=by
 have:op=2 ∨ op=6:=by simpa using h
 rcases this with h | h <;> subst h <;> simp [headOf]
theorem head_mu (h:decide (op=3 ∨ op=7)=true):headOf ds fs op n ty=if typedOk ds ty=true ∧ numOk n=true then some ([2],[]) else none:=by
 have:op=3 ∨ op=7:=by simpa using h
 rcases this with h | h <;> subst h <;> simp [headOf]
theorem head_match (h:decide (op=4)=true ∨ decide (op=8)=true):headOf ds fs op n ty=(match declAt ds ty with
 | some d=>if d.codata=decide (op=4) ∧ n=0 then some ([],d.xtors) else none
 | none=>none):=by
 have:op=4 ∨ op=8:=by simpa using h
 rcases this with h | h <;> subst h <;> simp [headOf]
theorem head_cut (h:decide (op=9)=true):headOf ds fs op n ty=if typedOk ds ty=true ∧ n=0 then some ([0,1],[]) else none:=by
 have:op=9:=by simpa using h
 subst this;simp [headOf]
theorem head_prim (h:decide (op=10)=true):headOf ds fs op n ty=if ty=0 ∧ 0 ≤ n ∧ n ≤ 6 then some ([0,0,1],[]) else none:=by
 have:op=10:=by simpa using h
 subst this;simp [headOf]
theorem head_ifz (h:decide (op=11)=true):headOf ds fs op n ty=if ty=0 ∧ n=0 then some ([0,2,2],[]) else none:=by
 have:op=11:=by simpa using h
 subst this;simp [headOf]
theorem head_emit (h:decide (op=12)=true):headOf ds fs op n ty=if ty=0 ∧ n=0 then some ([0,2],[]) else none:=by
 have:op=12:=by simpa using h
 subst this;simp [headOf]
theorem head_call (h:decide (op=13)=true):headOf ds fs op n ty=if ty=0 ∧ 0 ≤ n then (fs[n.toNat]?).map fun f=>(f.params.map fun a=>sideOf a.co,[]) else none:=by
 have:op=13:=by simpa using h
 subst this;simp [headOf]
theorem head_done (h:decide (op=14)=true):headOf ds fs op n ty=if ty=0 ∧ n=0 then some ([0],[]) else none:=by
 have:op=14:=by simpa using h
 subst this;simp [headOf]
theorem head_no (h0:decide (op=0 ∨ op=5)=false) (h1:decide (op=1)=false) (h2:decide (op=2 ∨ op=6)=false) (h3:decide (op=3 ∨ op=7)=false) (h4:decide (op=4)=false) (h8:decide (op=8)=false) (h9:decide (op=9)=false)
 (h10:decide (op=10)=false) (h11:decide (op=11)=false) (h12:decide (op=12)=false) (h13:decide (op=13)=false) (h14:decide (op=14)=false):headOf ds fs op n ty=none:=by
 simp only [decide_eq_false_iff_not] at *
 unfold headOf
 rw [if_neg h0,if_neg h1,if_neg h2,if_neg h3,if_neg (by omega),if_neg h9,if_neg h10,if_neg h11,if_neg h12,if_neg h13,if_neg h14]
end
end Go.Sim.Kd
namespace Go.Sim.Kd
open Go Go.Sim
def cntM (c:Int → Option Int):Value → Option AV
 | .int .i64 n=>(c n).map I
 | _=>none
theorem cntM_set (c:Int → Option Int) (v y:Int):mset (cntM c) (.int .i64 v) (some (I y))=cntM (fun n=>if n=v then some y else c n):=by
 funext k
 unfold mset
 by_cases h:k=.int .i64 v
 ·subst h;simp [cntM]
 ·rw [if_neg h]
  cases k <;> try rfl
  rename_i kd n
  cases kd <;> try rfl
  have hne:n ≠ v:=fun e=>h (by rw [e])
  simp [cntM,hne]
def addK (X:Int → Int) (v k:Int):Int → Int:=fun n=>if n=v then X n + k else X n
def CM (i:Nat) (X:Int → Int) (S:Sg):Prop:=∃ c,S.ob i=some (.map (.int .i64) (cntM c)) ∧ ∀ n,(c n).getD 0=X n
structure SC (o ix ia:Nat) (X A:Int → Int) (S:Sg):Prop where
 ho:S.ob o=some (.row [.map ix,.map ia])
 hx:CM ix X S
 ha:CM ia A S
 ol:o < S.nx
 xl:ix < S.nx
 al:ia < S.nx
 ox:o ≠ ix
 oa:o ≠ ia
 xa:ix ≠ ia
theorem CM.set {i:Nat} {X:Int → Int} {S:Sg} {c:Int → Option Int} (hc:∀ n,(c n).getD 0=X n) (v k:Int):CM i (addK X v k) (S.set i (.map (.int .i64) (mset (cntM c) (.int .i64 v) (some (I ((c v).getD 0 + k)))))):=by
 refine ⟨_,by rw [set_ob,cntM_set],fun n=>?_⟩
 unfold addK
 by_cases h:n=v
 ·subst h;simp [hc]
 ·simp [h,hc]
theorem CM.ne {i j:Nat} {X:Int → Int} {S:Sg} {o:AObj} (h:CM i X S) (hij:i ≠ j):CM i X (S.set j o):=by
 obtain ⟨c,h1,h2⟩:=h
 exact ⟨c,by rw [set_ne hij];exact h1,h2⟩
def coAt (l:List Bool) (i:Nat):Bool:=(l[i]?).getD false
theorem coAt_drop (l:List Bool) (i:Nat):(l.drop i).headD false=coAt l i:=by
 unfold coAt
 rw [List.headD_eq_head?_getD,List.head?_drop]
def Bd (X:Int → Int) (k:Int):Prop:=∀ n,-k ≤ X n ∧ X n ≤ k
theorem Bd.add {X:Int → Int} {b v k:Int} (h:Bd X b) (hk:-1 ≤ k ∧ k ≤ 1):Bd (addK X v k) (b + 1):=by
 intro n
 have:=h n
 unfold addK
 split <;> omega
theorem Bd.le {X:Int → Int} {b c:Int} (h:Bd X b) (hbc:b ≤ c):Bd X c:=fun n=>by have:=h n;omega
end Go.Sim.Kd
namespace Go.Sim.Kd
open Go Go.Sim
theorem SameBools_l (lb la:List Bool) (hl:la.length=lb.length) (i:Nat) (hi:i ≤ la.length) (hs:la.length ≤ 2 ^ 40) {n:Nat} {v:Nat → Bool} {D:List (Nat × List AV)} {S:Sg} {Q:Ex → Fr → Prop}
 (hX:∀ j,la.drop i=lb.drop i → Q (.exit 0) ⟨upd (upd (upd (upd (upd ((fun _=>none)) 14 (some (.val (B false)))) 13 (some (.val (I j)))) 12 (some (.val (I (la.map B).length)))) 1 (some (.val (SL 1 (lb.map B))))) 0 (some (.val (.slice .none 1 (la.map B)))),(fun _=>none),n,v,D,S⟩) (hR:la.drop i ≠ lb.drop i → Q .ret ⟨upd ((fun _=>none)) 4 (some (.val (B false))),(fun _=>none),n,v,D,S⟩):EX (callL p) (.loop F67_l1) ⟨upd (upd (upd (upd ((fun _=>none)) 13 (some (.val (I i)))) 12 (some (.val (I (la.map B).length)))) 1 (some (.val (SL 1 (lb.map B))))) 0 (some (.val (.slice .none 1 (la.map B)))),(fun _=>none),n,v,D,S⟩ Q:=by
 refine eloop (eseq (ereg (qp rfl (qb ?_))))
 rintro (_ | _) h1
 ·refine qk (kc rfl (kc rfl (kc rfl (kc rfl (kc rfl kn))))) kn (sqn (eseq (ecF rfl (eexit (sqx ?_)))))
  exact hX _ (by rw [List.drop_eq_nil_of_le (by simp at h1 ⊢;omega),List.drop_eq_nil_of_le (by simp at h1 ⊢;omega)])
 ·refine qk (kc rfl (kc rfl (kc rfl (kc rfl (kc rfl kn))))) kn (sqn (eseq (ecT rfl (eskip (sqn (eseq (eblock (eseq (ereg (qp rfl (qp rfl (qk (kc rfl (kc rfl (kc rfl (kc rfl (kc rfl kn))))) kn (sqn (eseq (ereg (qp rfl (qp rfl ?_)))))))))))))))))
  have hlt:i < la.length:=by simpa using h1
  obtain ⟨a,ha⟩:=get_of_lt hlt
  have hd:=drop_cons ha
  refine hia (y:=B a) rfl rfl (by omega) (by simp [ha]) rfl (qp rfl (qp rfl (qp rfl ?_)))
  obtain ⟨y,hy⟩:=get_of_lt (l:=lb) (i:=i) (by omega)
  have hd2:=drop_cons hy
  refine hia (y:=B y) rfl rfl (by omega) (by simp [hy]) rfl (qp rfl (qp rfl (qb ?_)))
  rintro (_ | _) h2
  ·refine qk (kc rfl (kc rfl (kc rfl (kc rfl (kc rfl kn))))) kn (sqn (ecF rfl (eskip (bqn (sqn (ereg (hadd rfl rfl (i64w (by omega)) (qp rfl (qk (kc rfl (kc rfl (kc rfl (kc rfl kn)))) kn ?_)))))))))
   exact SameBools_l lb la hl (i + 1) (by omega) hs (fun j h=>hX j (by rw [hd,hd2,h,show a=y from by simpa using h2])) (fun h=>hR (by rw [hd,hd2];intro e;exact h (List.cons.inj e).2))
  ·refine qk (kc rfl (kc rfl (kc rfl (kc rfl (kc rfl kn))))) kn (sqn (ecT rfl (eseq (ereg (qp rfl (qk (kc rfl kn) kn (sqn (eret (bqr (sqr ?_))))))))))
   exact hR (by rw [hd,hd2];intro e;have e1:=(List.cons.inj e).1;revert h2;simp [e1])
termination_by la.length - i
decreasing_by all_goals omega
theorem SameBools_c (s:Sg) (a b:List Bool) (hz:a.length ≤ 2 ^ 40):HC p N67_ [SL 1 (a.map B),SL 1 (b.map B)] s (fun r s'=>r=[B (decide (a=b))] ∧ s'=s):=by
 refine hcf rfl f67_ rfl ?_
 simp only [chainOf]
 refine eseq (ereg (qp rfl (qk (kc rfl (kc rfl kn)) kn (sqn (eseq (eseq (ereg (qp rfl (qp rfl (qp rfl (qp rfl (qp rfl (qb ?_)))))))))))))
 rintro (_ | _) h1
 ·refine qk (kc rfl (kc rfl (kc rfl kn))) kn (sqn (ecF rfl (eskip (sqn (eseq (eseq (ereg (qp rfl (qp rfl (qp rfl (qk (kc rfl (kc rfl (kc rfl (kc rfl kn)))) kn (sqn (eblock ?_)))))))))))))
  refine SameBools_l b a (by simp at h1;omega) 0 (by omega) hz ?_ ?_
  ·intro j hj
   refine bqx (sqn (eseq (ereg (qp rfl (qk (kc rfl kn) kn (sqn (eret (fqr rfl ?_))))))))
   refine ⟨?_,rfl⟩
   first
   | (rw [decide_eq_true (show a=b from hj)];rfl)
   | (rw [decide_eq_false (show ¬ a=b from hj)];rfl)
   | (rw [decide_eq_false (show ¬ a=b from by intro e;subst e;simp at h1)];rfl)
  ·intro hj
   refine bqr (sqr (fqr rfl ?_))
   refine ⟨?_,rfl⟩
   first
   | (rw [decide_eq_true (show a=b from hj)];rfl)
   | (rw [decide_eq_false (show ¬ a=b from hj)];rfl)
   | (rw [decide_eq_false (show ¬ a=b from by intro e;subst e;simp at h1)];rfl)
 ·refine qk (kc rfl (kc rfl (kc rfl kn))) kn (sqn (ecT rfl (eseq (ereg (qp rfl (qk (kc rfl kn) kn (sqn (eret (sqr (fqr rfl ?_))))))))))
  refine ⟨?_,rfl⟩
  first
  | (rw [decide_eq_true (show a=b from hj)];rfl)
  | (rw [decide_eq_false (show ¬ a=b from hj)];rfl)
  | (rw [decide_eq_false (show ¬ a=b from by intro e;subst e;simp at h1)];rfl)
theorem SameInts_l (lb la:List Int) (hl:la.length=lb.length) (i:Nat) (hi:i ≤ la.length) (hs:la.length ≤ 2 ^ 40) {n:Nat} {v:Nat → Bool} {D:List (Nat × List AV)} {S:Sg} {Q:Ex → Fr → Prop}
 (hX:∀ j,la.drop i=lb.drop i → Q (.exit 0) ⟨upd (upd (upd (upd (upd ((fun _=>none)) 14 (some (.val (B false)))) 13 (some (.val (I j)))) 12 (some (.val (I (la.map I).length)))) 1 (some (.val (SL 1 (lb.map I))))) 0 (some (.val (.slice .none 1 (la.map I)))),(fun _=>none),n,v,D,S⟩) (hR:la.drop i ≠ lb.drop i → Q .ret ⟨upd ((fun _=>none)) 4 (some (.val (B false))),(fun _=>none),n,v,D,S⟩):EX (callL p) (.loop F22_l1) ⟨upd (upd (upd (upd ((fun _=>none)) 13 (some (.val (I i)))) 12 (some (.val (I (la.map I).length)))) 1 (some (.val (SL 1 (lb.map I))))) 0 (some (.val (.slice .none 1 (la.map I)))),(fun _=>none),n,v,D,S⟩ Q:=by
 refine eloop (eseq (ereg (qp rfl (qb ?_))))
 rintro (_ | _) h1
 ·refine qk (kc rfl (kc rfl (kc rfl (kc rfl (kc rfl kn))))) kn (sqn (eseq (ecF rfl (eexit (sqx ?_)))))
  exact hX _ (by rw [List.drop_eq_nil_of_le (by simp at h1 ⊢;omega),List.drop_eq_nil_of_le (by simp at h1 ⊢;omega)])
 ·refine qk (kc rfl (kc rfl (kc rfl (kc rfl (kc rfl kn))))) kn (sqn (eseq (ecT rfl (eskip (sqn (eseq (eblock (eseq (ereg (qp rfl (qp rfl (qk (kc rfl (kc rfl (kc rfl (kc rfl (kc rfl kn))))) kn (sqn (eseq (ereg (qp rfl (qp rfl ?_)))))))))))))))))
  have hlt:i < la.length:=by simpa using h1
  obtain ⟨a,ha⟩:=get_of_lt hlt
  have hd:=drop_cons ha
  refine hia (y:=I a) rfl rfl (by omega) (by simp [ha]) rfl (qp rfl (qp rfl (qp rfl ?_)))
  obtain ⟨y,hy⟩:=get_of_lt (l:=lb) (i:=i) (by omega)
  have hd2:=drop_cons hy
  refine hia (y:=I y) rfl rfl (by omega) (by simp [hy]) rfl (qp rfl (qp rfl (qb ?_)))
  rintro (_ | _) h2
  ·refine qk (kc rfl (kc rfl (kc rfl (kc rfl (kc rfl kn))))) kn (sqn (ecF rfl (eskip (bqn (sqn (ereg (hadd rfl rfl (i64w (by omega)) (qp rfl (qk (kc rfl (kc rfl (kc rfl (kc rfl kn)))) kn ?_)))))))))
   exact SameInts_l lb la hl (i + 1) (by omega) hs (fun j h=>hX j (by rw [hd,hd2,h,show a=y from by simpa using h2])) (fun h=>hR (by rw [hd,hd2];intro e;exact h (List.cons.inj e).2))
  ·refine qk (kc rfl (kc rfl (kc rfl (kc rfl (kc rfl kn))))) kn (sqn (ecT rfl (eseq (ereg (qp rfl (qk (kc rfl kn) kn (sqn (eret (bqr (sqr ?_))))))))))
   exact hR (by rw [hd,hd2];intro e;have e1:=(List.cons.inj e).1;revert h2;simp [e1])
termination_by la.length - i
decreasing_by all_goals omega
theorem SameInts_c (s:Sg) (a b:List Int) (hz:a.length ≤ 2 ^ 40):HC p N22_ [SL 1 (a.map I),SL 1 (b.map I)] s (fun r s'=>r=[B (decide (a=b))] ∧ s'=s):=by
 refine hcf rfl f22_ rfl ?_
 simp only [chainOf]
 refine eseq (ereg (qp rfl (qk (kc rfl (kc rfl kn)) kn (sqn (eseq (eseq (ereg (qp rfl (qp rfl (qp rfl (qp rfl (qp rfl (qb ?_)))))))))))))
 rintro (_ | _) h1
 ·refine qk (kc rfl (kc rfl (kc rfl kn))) kn (sqn (ecF rfl (eskip (sqn (eseq (eseq (ereg (qp rfl (qp rfl (qp rfl (qk (kc rfl (kc rfl (kc rfl (kc rfl kn)))) kn (sqn (eblock ?_)))))))))))))
  refine SameInts_l b a (by simp at h1;omega) 0 (by omega) hz ?_ ?_
  ·intro j hj
   refine bqx (sqn (eseq (ereg (qp rfl (qk (kc rfl kn) kn (sqn (eret (fqr rfl ?_))))))))
   refine ⟨?_,rfl⟩
   first
   | (rw [decide_eq_true (show a=b from hj)];rfl)
   | (rw [decide_eq_false (show ¬ a=b from hj)];rfl)
   | (rw [decide_eq_false (show ¬ a=b from by intro e;subst e;simp at h1)];rfl)
  ·intro hj
   refine bqr (sqr (fqr rfl ?_))
   refine ⟨?_,rfl⟩
   first
   | (rw [decide_eq_true (show a=b from hj)];rfl)
   | (rw [decide_eq_false (show ¬ a=b from hj)];rfl)
   | (rw [decide_eq_false (show ¬ a=b from by intro e;subst e;simp at h1)];rfl)
 ·refine qk (kc rfl (kc rfl (kc rfl kn))) kn (sqn (ecT rfl (eseq (ereg (qp rfl (qk (kc rfl kn) kn (sqn (eret (sqr (fqr rfl ?_))))))))))
  refine ⟨?_,rfl⟩
  first
  | (rw [decide_eq_true (show a=b from hj)];rfl)
  | (rw [decide_eq_false (show ¬ a=b from hj)];rfl)
  | (rw [decide_eq_false (show ¬ a=b from by intro e;subst e;simp at h1)];rfl)
def distinctOk:List (Int × Bool) → List (Int × Bool) → Bool
 | _,[]=>true
 | seen,p :: ps=>numOk p.1 && !(seen.any fun q=>decide (q=p)) && distinctOk (seen ++ [p]) ps
theorem zip_at {vars:List Int} {cos:List Bool} {i:Nat} {x:Int} {c:Bool} (h:vars[i]?=some x) (k:cos[i]?=some c):(vars.zip cos)[i]?=some (x,c):=by simp [List.getElem?_zip_eq_some,h,k]
end Go.Sim.Kd
