/-
  A part of a proof: see the last text of this claim.
-/
import Derived.Test.YtfejjomhjeioaaaGreatDoorPG
import Derived.Test.YtfejjomhjeioaaaGreatDoorPB
set_option linter.unusedVariables false
set_option linter.unusedSimpArgs false
namespace Go.Sim.Kd
open Go Go.Sim
abbrev bytes (s:ByteArray):List UInt8:=s.data.toList
def lowB (b:UInt8):Bool:=decide ((b.toNat:Int) ≥ 97) && decide ((b.toNat:Int) ≤ 122)
def capB (b:UInt8):Bool:=decide ((b.toNat:Int) ≥ 65) && decide ((b.toNat:Int) ≤ 90)
def isLow (b:UInt8):Bool:=lowB b || (decide ((b.toNat:Int) ≥ 48) && decide ((b.toNat:Int) ≤ 57))
def headIs (f:UInt8 → Bool) (s:ByteArray):Bool:=match bytes s with
 | b :: _=>f b
 | []=>false
def resWords:List ByteArray:=[⟨#[100,97,116,97]⟩,⟨#[99,111,100,97,116,97]⟩,⟨#[102,117,110]⟩,⟨#[105,110,116]⟩,⟨#[105,102,122]⟩,⟨#[99,97,115,101]⟩,⟨#[99,111,99,97,115,101]⟩,⟨#[108,101,116]⟩,⟨#[101,109,105,116]⟩,⟨#[108,97,98,101,108]⟩,⟨#[103,111,116,111]⟩]
def reserved (s:ByteArray):Bool:=resWords.any fun w=>decide (s=w)
def nameOk (s:ByteArray):Bool:=decide (1 ≤ s.size) && decide (s.size ≤ 10) && headIs lowB s && ((bytes s).drop 1).all isLow && !reserved s
def xnameOk (s:ByteArray):Bool:=decide (1 ≤ s.size) && decide (s.size ≤ 10) && headIs capB s && ((bytes s).drop 1).all isLow
theorem byte_at {s:ByteArray} {i:Nat} (h:i < s.size):∃ b,s.data.toList[i]?=some b:=⟨_,List.getElem?_eq_getElem (by simpa using h)⟩
theorem headIs_of {f:UInt8 → Bool} {s:ByteArray} {b:UInt8} (h:s.data.toList[0]?=some b):headIs f s=f b:=by
 unfold headIs
 show (match s.data.toList with
  | b :: _=>f b
  | []=>false)=f b
 cases hs:s.data.toList with
 | nil=>rw [hs] at h;cases h
 | cons x l=>rw [hs] at h;cases h;rfl
theorem lower_c (s:Sg) (b:UInt8):HC p N103_ [.lit (.int .u8 b.toNat)] s (fun r s'=>r=[B (lowB b)] ∧ s'=s):=by
 refine hcf J f103_ J ?_
 simp only [chainOf]
 refine er (qp J (qn (kq1 J) kn (er (pq2 J (qb ?_)))))
 rintro (_ | _) h1
 ·refine qp J (zq2 J (pq2 J (qn (kq1 J) kn (eret (fqr J ?_)))))
  refine ⟨?_,rfl⟩;simp_all [AV.ers,AV.er,isLow,lowB] <;> omega
 refine qp J (qg J (qp J (qg J (pq3 J (qn (kq1 J) kn (eret (fqr J ?_)))))))
 refine ⟨?_,rfl⟩;simp_all [AV.ers,AV.er,isLow,lowB] <;> omega
theorem drest_l (s:ByteArray) (i:Nat) (hi:i ≤ s.size) (hs:s.size ≤ 2 ^ 40) {n:Nat} {v:Nat → Bool} {D:List (Nat × List AV)} {S:Sg} {Q:Ex → Fr → Prop}
 (hX:∀ j,((bytes s).drop i).all isLow=true → Q (.exit 0) ⟨upd (upd (upd ((fun _=>none)) 7 (some (.val (B false)))) 3 (some (.val (I j)))) 0 (some (.val (Str s))),(fun _=>none),n,v,D,S⟩) (hR:((bytes s).drop i).all isLow=false → Q .ret ⟨upd ((fun _=>none)) 2 (some (.val (B false))),(fun _=>none),n,v,D,S⟩):EX (callL p) (.loop F104_l1) ⟨upd (upd ((fun _=>none)) 3 (some (.val (I i)))) 0 (some (.val (Str s))),(fun _=>none),n,v,D,S⟩ Q:=by
 refine eloop (eseq (er (pq4 J (qb ?_))))
 rintro (_ | _) h1
 refine qn (kq3 J) kn (ecF J (eexit (sqx ?_)))
 exact hX _ (by rw [List.drop_eq_nil_of_le (by simp at h1 ⊢;omega)];rfl)
 refine qn (kq3 J) kn (ecT J (eskip (sqn (eseq (eblock (er (pq2 J ?_)))))))
 obtain ⟨b,hb⟩:=byte_at (s:=s) (i:=i) (by simpa using h1)
 refine hixs J J (by omega) (by simpa using hb) (hcall J J J (lower_c _ _) ?_)
 rintro _ _ ⟨rfl,rfl⟩
 refine qb ?_
 rintro (_ | _) h2
 refine pq2 J (qg J (qp J (qg J (qp J (qg J (hixs J J (by omega) (by simpa using hb) (qg J (qp J (qb ?_)))))))))
 rintro (_ | _) h3
 refine qg J (qp J (qg J (qp J (qg J (qp J (qg J (hixs J J (by omega) (by simpa using hb) (qg J (qp J (qb ?_))))))))))
 rintro (_ | _) h4
 refine qg J (pq2 J (qn (kq3 J) kn (ecF J (eskip (bqn (sqn (ereg (qp J (hadd J J (i64w (by omega)) (qp J (qk (kq2 J) kn ?_)))))))))))
 rotate_left
 refine qg J (pq2 J (qn (kq3 J) kn (ecT J (er (qp J (qn (kq1 J) kn (eret (bqr (sqr ?_)))))))))
 have hf:isLow b=false:=by simp_all [isLow] <;> omega
 exact hR (by rw [drop_cons hb];simp_all)
 refine qg J (qp J (zq4 J (qg J (pq2 J (qn (kq3 J) kn (ecT J (er (qp J (qn (kq1 J) kn (eret (bqr (sqr ?_))))))))))))
 have hf:isLow b=false:=by simp_all [isLow] <;> omega
 exact hR (by rw [drop_cons hb];simp_all)
 refine pq2 J (zq10 J (qp J (qn (kq3 J) kn (ecF J (eskip (bqn (sqn (ereg (qp J (hadd J J (i64w (by omega)) (qp J (qk (kq2 J) kn ?_))))))))))))
 rotate_left
 all_goals
  have hlt:i < s.size:=by simpa using h1
  have hf:isLow b=true:=by simp_all [isLow] <;> omega
  exact drest_l s (i + 1) (by omega) hs (fun j h=>hX j (by rw [drop_cons hb];simp_all)) (fun h=>hR (by rw [drop_cons hb];simp_all))
termination_by s.size - i
decreasing_by all_goals omega
theorem drest_c (s:Sg) (x:ByteArray) (hs:x.size ≤ 2 ^ 40):HC p N104_ [Str x] s (fun r s'=>r=[B ((bytes x).all isLow)] ∧ s'=s):=by
 refine hcf J f104_ J ?_
 simp only [chainOf]
 refine er (qp J (qn (kq1 J) kn (eseq (er (qp J (qn (kq2 J) kn (eblock ?_)))))))
 refine drest_l x 0 (by omega) hs ?_ ?_
 ·intro j ha
  refine bqx (sqn (er (qp J (qn (kq1 J) kn (eret (fqr J ?_))))))
  refine ⟨?_,rfl⟩;simp_all [AV.ers,AV.er]
 intro ha
 refine bqr (sqr (fqr J ?_))
 refine ⟨?_,rfl⟩;simp_all [AV.ers,AV.er]
def QOK (s:Sg):Prop:=hasInt (s.Q 2 0)=true
theorem Contains_c (s:Sg) (hQ:QOK s) (a b:ByteArray) (ha:a.size < 4294967281):HC p N105_ [Str a,Str b] s (fun r s'=>r=[B (Lib.contains (bytes a) (bytes b))] ∧ s'=s):=by
 refine ⟨_,s,?_,J,J⟩
 rw [callL_eq]
 have e:p.ov N105_=some containsOv:=rfl
 rw [e]
 simp only [containsOv,if_pos (show a.size < 4294967281 ∧ hasInt (s.Q 2 0)=true from ⟨ha,hQ⟩)]
def has (sub:List UInt8):List UInt8 → Bool
 | []=>sub.isPrefixOf []
 | b :: l=>sub.isPrefixOf (b :: l) || has sub l
theorem index_cons (sub:List UInt8) (b:UInt8) (l:List UInt8):Lib.index (b :: l) sub=if sub.isPrefixOf (b :: l)=true then 0 else if (Lib.index l sub == -1)=true then -1 else Lib.index l sub + 1:=by
 conv=>lhs;unfold Lib.index
theorem contains_has (sub:List UInt8):∀ l,Lib.contains l sub=has sub l
 | []=>by
   cases sub with
   | nil=>rfl
   | cons a t=>rfl
 | b :: l=>by
   have ih:=contains_has sub l
   unfold Lib.contains at ih ⊢
   unfold has
   rw [← ih,index_cons]
   cases hp:sub.isPrefixOf (b :: l) with
   | true=>simp
   | false =>
     simp only [Bool.false_eq_true,if_false,Bool.false_or]
     have:=Lib.index_ge l sub
     by_cases h:Lib.index l sub=-1
     ·rw [h];rfl
     have e:(Lib.index l sub == -1)=false:=by rw [beq_eq_false_iff_ne];exact h
     simp only [e,Bool.false_eq_true,if_false]
     rw [Bool.eq_iff_iff]
     simp only [Dte]
     omega
theorem pre_word {w x r:List UInt8} (hw:∀ b ∈ w,b ≠ 32) (hx:∀ b ∈ x,b ≠ 32):(w ++ [32]).isPrefixOf (x ++ 32 :: r)=decide (w=x):=by
 induction w generalizing x with
 | nil =>
   cases x with
   | nil=>simp
   | cons b x=>have:=hx b (List.mem_cons_self ..);simp [List.isPrefixOf,Ne.symm this]
 | cons a w ih =>
   cases x with
   | nil=>have:=hw a (List.mem_cons_self ..);simp [List.isPrefixOf,this]
   | cons b x =>
     simp only [List.cons_append,List.isPrefixOf,ih (fun b hb=>hw b (List.mem_cons_of_mem _ hb)) (fun b hb=>hx b (List.mem_cons_of_mem _ hb)),List.cons.injEq]
     rw [Bool.eq_iff_iff]
     simp
theorem has_skip {t x r:List UInt8} (hx:∀ b ∈ x,b ≠ 32):has (32 :: t) (x ++ r)=has (32 :: t) r:=by
 induction x with
 | nil=>rfl
 | cons b x ih =>
   have hb:=hx b (List.mem_cons_self ..)
   simp only [List.cons_append,has,List.isPrefixOf]
   have e:((32:UInt8) == b)=false:=by rw [beq_eq_false_iff_ne];exact Ne.symm hb
   rw [e,Bfa,Bool.false_or]
   exact ih fun b hb=>hx b (List.mem_cons_of_mem _ hb)
theorem has_words {w:List UInt8} (hw:∀ b ∈ w,b ≠ 32):∀ ws:List (List UInt8),(∀ x ∈ ws,∀ b ∈ x,b ≠ 32) → has (32 :: (w ++ [32])) (32 :: ws.flatMap (· ++ [32]))=ws.any fun x=>decide (w=x)
 | [],_=>by cases w <;> simp [has,List.isPrefixOf]
 | x :: ws,h=>by
   have hx:=h x (List.mem_cons_self ..)
   have ih:=has_words hw ws fun y hy=>h y (List.mem_cons_of_mem _ hy)
   have e:(x :: ws).flatMap (· ++ [32])=x ++ 32 :: ws.flatMap (· ++ [32]):=by simp
   rw [has,e,List.isPrefixOf,pre_word hw hx,has_skip hx,ih]
   simp
def resBytes:List (List UInt8):=resWords.map bytes
def resText:ByteArray:=⟨#[32,100,97,116,97,32,99,111,100,97,116,97,32,102,117,110,32,105,110,116,32,105,102,122,32,99,97,115,101,32,99,111,99,97,115,101,32,108,101,116,32,101,109,105,116,32,108,97,98,101,108,32,103,111,116,111,32]⟩
theorem resText_eq:bytes resText=32 :: resBytes.flatMap (· ++ [32]):=by decide
theorem contains_reserved {x:ByteArray} (hx:(bytes x).all isLow=true):Lib.contains (bytes resText) (32 :: (bytes x ++ [32]))=reserved x:=by
 have h32:∀ b ∈ bytes x,b ≠ 32:=by
  intro b hb e
  have:=List.all_eq_true.1 hx b hb
  subst e
  revert this
  decide
 rw [contains_has,resText_eq,has_words h32 resBytes (by decide)]
 unfold reserved resBytes
 rw [List.any_map]
 congr 1
 funext w
 show decide (bytes x=bytes w)=decide (x=w)
 rw [Bool.eq_iff_iff]
 simp only [Dte]
 constructor
 ·intro h
  exact ByteArray.ext (Array.ext' h)
 intro h;rw [h]
theorem all_split {x:ByteArray} (h:headIs lowB x=true):(bytes x).all isLow=((bytes x).drop 1).all isLow:=by
 unfold headIs at h
 cases hb:bytes x with
 | nil=>rfl
 | cons b l=>rw [hb] at h;simp only at h;simp [isLow,h]
theorem name_eq {x:ByteArray} {b:UInt8} (h1:1 ≤ x.size) (h2:x.size ≤ 10) (hb:x.data.toList[0]?=some b) (hl:lowB b=true) (hr:(bytes x).all isLow=true):nameOk x=!reserved x:=by
 unfold nameOk
 rw [headIs_of hb,← all_split (by rw [headIs_of hb];exact hl),hr,hl,decide_eq_true h1,decide_eq_true h2]
 simp
theorem cat1 {x:ByteArray} (h:x.size ≤ 100):(⟨#[32]⟩:ByteArray).size + x.size ≤ 2 ^ 62:=by
 have:(⟨#[32]⟩:ByteArray).size=1:=rfl
 omega
theorem cat2 {x:ByteArray} (h:x.size ≤ 100):((⟨#[32]⟩:ByteArray) ++ x).size + (⟨#[32]⟩:ByteArray).size ≤ 2 ^ 62:=by
 have:(⟨#[32]⟩:ByteArray).size=1:=rfl
 rw [ByteArray.size_append]
 omega
theorem cat_bytes (x:ByteArray):bytes ((⟨#[32]⟩:ByteArray) ++ x ++ ⟨#[32]⟩)=32 :: (bytes x ++ [32]):=by
 simp [bytes]
theorem dName_c (s:Sg) (hQ:QOK s) (x:ByteArray):HC p N57_ [Str x] s (fun r s'=>r=[B (nameOk x)] ∧ s'=s):=by
 refine hcf J f57_ J ?_
 simp only [chainOf]
 refine er (qp J (qn (kq1 J) kn (er (pq3 J (qb ?_)))))
 rintro (_ | _) h1
 refine qp J (zq3 J (pq2 J (zq3 J (pq2 J (zq2 J (pq2 J (zq5 J (pq2 J (qn (kq1 J) kn ?_)))))))))
 refine eret (fqr J ?_)
 rotate_left
 refine qp J (qg J (qp J (qg J (qp J (qg J (qp J (qb ?_)))))))
 rintro (_ | _) h2
 refine pq2 J (zq3 J (pq2 J (zq2 J (pq2 J (zq5 J (pq2 J (qn (kq1 J) kn (eret (fqr J ?_)))))))))
 rotate_left
 refine pq2 J (qg J (qp J (qg J ?_)))
 obtain ⟨b,hb⟩:=byte_at (s:=x) (i:=0) (by simp at h1;omega)
 refine hixs J J (by omega) (by simpa using hb) (qg J (hcall J J J (lower_c _ _) ?_))
 rintro _ _ ⟨rfl,rfl⟩
 refine qb ?_
 rintro (_ | _) h3
 refine pq2 J (zq2 J (pq2 J (zq5 J (pq2 J (qn (kq1 J) kn (eret (fqr J ?_)))))))
 rotate_left
 refine pq2 rfl (qg rfl (qp rfl (qg rfl (hcall rfl rfl rfl (drest_c _ _ (by simp at *;omega)) ?_))))
 rintro _ _ ⟨rfl,rfl⟩
 refine qb ?_
 rintro (_ | _) h4
 refine pq2 J (zq5 J (pq2 J (qn (kq1 J) kn (eret (fqr J ?_)))))
 rotate_left
 refine pq2 rfl (qg rfl (qp rfl (qg rfl (hcat rfl rfl (cat1 (by simp at *;omega)) (qg rfl (hcat rfl rfl (cat2 (by simp at *;omega)) (qg rfl (hcall rfl rfl rfl (Contains_c _ hQ resText _ (by decide)) ?_))))))))
 rintro _ _ ⟨rfl,rfl⟩
 rw [cat_bytes,contains_reserved ‹_›]
 refine qg J (pq3 J (qn (kq1 J) kn (eret (fqr J ?_))))
 rotate_left
 all_goals
  refine ⟨?_,J⟩
  first
  | (have ha:=all_split (x:=x) (by rw [headIs_of hb];assumption);simp_all [AV.ers,AV.er,nameOk,headIs_of,-List.all_eq_true,-List.all_eq_false,-List.any_eq_true,-List.any_eq_false];done)
  | (rw [name_eq (by simp at *;omega) (by simp at *;omega) hb ‹_› ‹_›];rfl)
  | (simp_all [AV.ers,AV.er,nameOk,headIs_of,-List.all_eq_true,-List.all_eq_false,-List.any_eq_true,-List.any_eq_false] <;> omega)
theorem tail_bytes (x:ByteArray):bytes (x.extract 1 x.size)=(bytes x).drop 1:=by
 simp [bytes,List.take_of_length_le]
theorem dXtorName_c (s:Sg) (x:ByteArray):HC p N102_ [Str x] s (fun r s'=>r=[B (xnameOk x)] ∧ s'=s):=by
 refine hcf J f102_ J ?_
 simp only [chainOf]
 refine er (qp J (qn (kq1 J) kn (er (pq3 J (qb ?_)))))
 rintro (_ | _) h1
 refine qp J (zq3 J (pq2 J (zq3 J (pq2 J (zq3 J (pq2 J (zq3 J (pq2 J (qn (kq1 J) kn (eret ?_))))))))))
 refine fqr J ?_
 rotate_left
 refine qp J (qg J (qp J (qg J (qp J (qg J (qp J (qb ?_)))))))
 rintro (_ | _) h2
 refine pq2 J (zq3 J (pq2 J (zq3 J (pq2 J (zq3 J (pq2 J (qn (kq1 J) kn (eret (fqr J ?_)))))))))
 rotate_left
 refine pq2 J (qg J (qp J (qg J ?_)))
 obtain ⟨b,hb⟩:=byte_at (s:=x) (i:=0) (by simp at h1;omega)
 refine hixs J J (by omega) (by simpa using hb) (qg J (qp J (qb ?_)))
 rintro (_ | _) h3
 refine pq2 J (zq3 J (pq2 J (zq3 J (pq2 J (qn (kq1 J) kn (eret (fqr J ?_)))))))
 rotate_left
 refine pq2 J (qg J (qp J (qg J (hixs J J (by omega) (by simpa using hb) (qg J (qp J (qb ?_)))))))
 rintro (_ | _) h4
 refine pq2 J (zq3 J (pq2 J (qn (kq1 J) kn (eret (fqr J ?_)))))
 rotate_left
 refine qp rfl (qp rfl (qg rfl (qp rfl (qg rfl (hsls (a:=1) rfl rfl rfl (by simp at *;omega) (qg rfl (hcall rfl rfl rfl (drest_c _ _ (by simp at *;omega)) ?_)))))))
 rintro _ _ ⟨rfl,rfl⟩
 rw [tail_bytes]
 refine pq2 J (qn (kq1 J) kn (eret (fqr J ?_)))
 rotate_left
 all_goals
  refine ⟨?_,rfl⟩;simp_all [AV.ers,AV.er,xnameOk,headIs_of,capB,-List.all_eq_true,-List.all_eq_false,-List.any_eq_true,-List.any_eq_false] <;> omega
def typesOk (N:Nat) (l:List Arg):Bool:=l.all fun a=>decide (0 ≤ a.ty) && decide (a.ty ≤ N)
def xtorOk (N:Nat) (seen:List ByteArray) (x:Xtor):Bool:=xnameOk x.name && decide (x.args.length ≤ 6) && !(seen.any fun y=>decide (x.name=y)) && typesOk N x.args
def xtorsOk (N:Nat):List ByteArray → List Xtor → Option (List ByteArray)
 | seen,[]=>some seen
 | seen,x :: xs=>if xtorOk N seen x then xtorsOk N (seen ++ [x.name]) xs else none
def declOk (names:List ByteArray) (d:Decl):Bool:=nameOk d.name && decide (1 ≤ d.xtors.length) && decide (d.xtors.length ≤ 6) && !(names.any fun y=>decide (y=d.name))
def declsOk (N:Nat):List ByteArray → List ByteArray → List Decl → Bool
 | _,_,[]=>true
 | names,seen,d :: ds=>declOk names d && (match xtorsOk N seen d.xtors with
   | some seen'=>declsOk N (names ++ [d.name]) seen' ds
   | none=>false)
def declsValid (l:List Decl):Bool:=decide (l.length ≤ 8) && declsOk l.length [] [] l
theorem c1_l {b:Nat} (ds:List Decl) (l:List Arg) (i:Nat) (hi:i ≤ l.length) (hs:l.length ≤ 2 ^ 40) {n:Nat} {v:Nat → Bool} {D:List (Nat × List AV)} {S:Sg} {Q:Ex → Fr → Prop}
 (hS:S.ob b=some (.row [SL 3 (ds.map Decl.enc)])) (hX:∀ j,typesOk ds.length (l.drop i)=true → Q (.exit 0) ⟨upd (upd (upd (upd (upd ((fun _=>none)) 30 (some (.val (B false)))) 29 (some (.val (I j)))) 28 (some (.val (I (l.map Arg.enc).length)))) 27 (some (.val (.slice .none 2 (l.map Arg.enc))))) 2 (some (.val (.ptr b 0))),(fun _=>none),n,v,D,S⟩) (hR:typesOk ds.length (l.drop i)=false → Q .ret ⟨upd ((fun _=>none)) 4 (some (.val (B false))),(fun _=>none),n,v,D,S⟩):EX (callL p) (.loop F101_l1) ⟨upd (upd (upd (upd ((fun _=>none)) 29 (some (.val (I i)))) 28 (some (.val (I (l.map Arg.enc).length)))) 27 (some (.val (.slice .none 2 (l.map Arg.enc))))) 2 (some (.val (.ptr b 0))),(fun _=>none),n,v,D,S⟩ Q:=by
 refine eloop (er (qp J (qb ?_)))
 rintro (_ | _) h1
 ·refine qn (kq5 J) kn (eseq (ecF J (eexit (sqx ?_))))
  exact hX _ (by rw [List.drop_eq_nil_of_le (by simp at h1 ⊢;omega)];rfl)
 refine qn (kq5 J) kn (eseq (ecT J (eskip (sqn (eseq (eblock (er ?_)))))))
 have hlt:i < l.length:=by simpa using h1
 obtain ⟨a,ha⟩:=get_of_lt hlt
 have hd:=drop_cons ha
 refine hia (y:=Arg.enc a) rfl rfl (by omega) (by simp [ha]) rfl (hlda rfl rfl (lc rfl (lc rfl (ln rfl))) (hal (dc (dc (dc (dc (dc (dc (dc dn rfl) rfl) rfl) rfl) rfl) rfl) rfl) (hstl rfl rfl rfl rfl (Nlb rfl) (lc rfl (lc rfl (ln rfl))) (qk (kc rfl (kc rfl (kc rfl (kc rfl (kc rfl kn))))) (kc rfl kn) (sqn (eseq (ereg (qp rfl (qp rfl (qp rfl (qb ?_)))))))))))
 rintro (_ | _) h2
 ·refine qp J (qg J (qp J (qg J (qp J (qg J (hldo J hS J ?_))))))
  refine qg J (qp J (qg J (qp J (qb ?_))))
  rintro (_ | _) h3
  ·refine qp J (qn (kq5 J) kn (ecF J (eskip (bqn (sqn (ereg (hadd J J (i64w (by omega)) (qp J (qk (kq4 J) kn ?_)))))))))
   exact c1_l ds l (i + 1) (by omega) hs hS (fun j h=>hX j (by rw [hd];simp_all [typesOk])) (fun h=>hR (by rw [hd];simp_all [typesOk]))
  refine qp J (qn (kq5 J) kn (ecT J (er (qp J (qn (kq1 J) kn (eret (bqr (sqr ?_))))))))
  exact hR (by rw [hd];simp_all [typesOk];try omega)
 refine qp J (zq5 J (qp J (qn (kq5 J) kn (ecT J (er (qp J (qn (kq1 J) kn (eret (bqr (sqr ?_))))))))))
 exact hR (by rw [hd];simp_all [typesOk];try omega)
termination_by l.length - i
decreasing_by all_goals omega
theorem any_comm (l:List ByteArray) (x:ByteArray):(l.any fun y=>decide (x=y))=l.any fun y=>decide (y=x):=by
 congr 1
 funext y
 rw [Bool.eq_iff_iff]
 simp only [Dte]
 exact eq_comm
theorem c1_c (s:Sg) (ds:List Decl) (x:Xtor) (seen:List ByteArray) (a b m:Nat) (hA:s.ob a=some (.row [.map m])) (hB:s.ob b=some (.row [SL 3 (ds.map Decl.enc)])) (hM:s.ob m=some (.map .str (setS seen))) (hbm:b ≠ m):HC p N101_ [x.enc,.ptr a 0,.ptr b 0] s (fun r s'=>r=[B (xtorOk ds.length seen x)] ∧ Chg (·=m) s s' ∧ (xtorOk ds.length seen x=true → s'.ob m=some (.map .str (setS (seen ++ [x.name]))))):=by
 refine hcf J f101_ J ?_
 simp only [chainOf]
 refine er (hbox (dq3 J) J (lq2 J) (qp J (qn (kq3 J) (kq1 J) (eseq (er (pq2 J (hcall J J J (dXtorName_c _ _) ?_)))))))
 rintro _ _ ⟨rfl,rfl⟩
 refine qb ?_
 rintro (_ | _) h1
 refine pq2 J (zq4 J (pq2 J (zq4 J (qp J (qn (kq4 J) (kq1 J) (ecT J (er (qp J (qn (kq1 J) kn (eret (sqr (fqr J ?_))))))))))))
 rotate_left
 refine pq2 J (qg J (hldo J hA J ?_))
 refine qg J (qp J (qg J (qp J (qg J (hlk J J J hM ?_)))))
 rw [setS_get]
 refine qb ?_
 rintro (_ | _) h2
 refine pq2 J (qg J (qp J (qg J (qp J (qg J (qp J (qg J (qp J (qb ?_)))))))))
 rintro (_ | _) h3
 refine qp J (qn (kq4 J) (kq1 J) (ecF J (eskip (sqn (er (hldo J hA J ?_))))))
 refine pq2 J (hmu J J J J hM ?_)
 rw [show (AV.lit (.bool true)).er=B true from rfl,setS_add]
 refine qn (kq2 J) (kq1 J) (eseq (er (pq4 J (qn (kq4 J) kn (eblock ?_)))))
 refine c1_l (b:=b) ds x.args 0 (by omega) (by simp at h3;omega) (by first | exact hB | (rw [set_ne hbm];exact hB)) ?_ ?_
 intro j ht
 refine bqx (sqn (er (qp J (qn (kq1 J) kn (eret (fqr J ?_))))))
 have hx:xtorOk ds.length seen x=true:=by
  simp_all [xtorOk,any_comm,-List.all_eq_true,-List.all_eq_false,-List.any_eq_true,-List.any_eq_false] <;> omega
 refine ⟨by rw [hx];rfl,(Chg.refl _).set fun _=>rfl,fun h=>set_ob⟩
 intro ht
 refine bqr (sqr (fqr J ?_))
 rotate_left
 refine qp J (qn (kq4 J) (kq1 J) (ecT J (er (qp J (qn (kq1 J) kn (eret (sqr (fqr J ?_))))))))
 rotate_left
 refine pq2 J (zq4 J (qp J (qn (kq4 J) (kq1 J) (ecT J (er (qp J (qn (kq1 J) kn (eret (sqr (fqr J ?_))))))))))
 rotate_left
 all_goals
  have hx:xtorOk ds.length seen x=false:=by
   simp_all [xtorOk,any_comm,-List.all_eq_true,-List.all_eq_false,-List.any_eq_true,-List.any_eq_false] <;> omega
  refine ⟨by rw [hx];rfl,by first | exact Chg.refl _ | exact (Chg.refl _).set fun _=>rfl,fun h=>absurd h (by rw [hx];simp)⟩
structure DV (ds:List Decl) (a b m:Nat) (seen:List ByteArray) (S:Sg):Prop where
 hA:S.ob a=some (.row [.map m])
 hB:S.ob b=some (.row [SL 3 (ds.map Decl.enc)])
 hM:S.ob m=some (.map .str (setS seen))
 al:a < S.nx
 bl:b < S.nx
 ml:m < S.nx
 am:a ≠ m
 bm:b ≠ m
theorem DV.step {ds:List Decl} {a b m:Nat} {seen seen':List ByteArray} {S S':Sg} (h:DV ds a b m seen S) (k:Chg (·=m) S S') (hm:S'.ob m=some (.map .str (setS seen'))):DV ds a b m seen' S' :=
 ⟨(k.ob a h.al h.am).trans h.hA,(k.ob b h.bl h.bm).trans h.hB,hm,Nat.lt_of_lt_of_le h.al k.nx,Nat.lt_of_lt_of_le h.bl k.nx,Nat.lt_of_lt_of_le h.ml k.nx,h.am,h.bm⟩
theorem dV_l2 {pa pb pm:Nat} (ds:List Decl) (l:List Xtor) (seen:List ByteArray) (i:Nat) (hi:i ≤ l.length) (hs:l.length ≤ 2 ^ 40) {x3 x16 x17 x18:AV} {n:Nat} {v:Nat → Bool} {D:List (Nat × List AV)} {S:Sg} {Q:Ex → Fr → Prop}
 (hD:DV ds pa pb pm seen S) (hX:∀ S' seen' j,xtorsOk ds.length seen (l.drop i)=some seen' → Chg (·=pm) S S' → DV ds pa pb pm seen' S' → Q (.exit 2) ⟨upd (upd (upd (upd (upd (upd (upd (upd (upd ((fun _=>none)) 51 (some (.val (B false)))) 50 (some (.val (I j)))) 49 (some (.val (I (l.map Xtor.enc).length)))) 48 (some (.val (.slice .none 2 (l.map Xtor.enc))))) 18 (some (.val x18))) 17 (some (.val x17))) 16 (some (.val x16))) 5 (some (.val (.fn N101_ [] [.ptr pa 0,.ptr pb 0])))) 3 (some (.val x3)),(fun _=>none),n,v,D,S'⟩)
 (hR:xtorsOk ds.length seen (l.drop i)=none → ∀ S',Chg (·=pm) S S' → Q .ret ⟨upd ((fun _=>none)) 2 (some (.val (B false))),(fun _=>none),n,v,D,S'⟩):EX (callL p) (.loop F56_l2) ⟨upd (upd (upd (upd (upd (upd (upd (upd ((fun _=>none)) 50 (some (.val (I i)))) 49 (some (.val (I (l.map Xtor.enc).length)))) 48 (some (.val (.slice .none 2 (l.map Xtor.enc))))) 18 (some (.val x18))) 17 (some (.val x17))) 16 (some (.val x16))) 5 (some (.val (.fn N101_ [] [.ptr pa 0,.ptr pb 0])))) 3 (some (.val x3)),(fun _=>none),n,v,D,S⟩ Q:=by
 refine eloop (er (qp J (qb ?_)))
 rintro (_ | _) h1
 ·refine qn (kq9 J) kn (eseq (ecF J (eexit (sqx ?_))))
  exact hX _ _ _ (by rw [List.drop_eq_nil_of_le (by simp at h1 ⊢;omega)];rfl) (Chg.refl _) hD
 refine qn (kq9 J) kn (eseq (ecT J (eskip (sqn (eseq (eblock (er ?_)))))))
 have hlt:i < l.length:=by simpa using h1
 obtain ⟨a,ha⟩:=get_of_lt hlt
 have hd:=drop_cons ha
 refine hia (y:=Xtor.enc a) rfl rfl (by omega) (by simp [ha]) rfl (hlda rfl rfl (lc rfl (lc rfl (ln rfl))) (hal (dc (dc (dc (dc (dc (dc (dc (dc (dc (dc (dc dn rfl) rfl) rfl) rfl) rfl) rfl) rfl) rfl) rfl) rfl) rfl) (hstl rfl rfl rfl rfl (Nlb rfl) (lc rfl (lc rfl (ln rfl))) (qk (kc rfl (kc rfl (kc rfl (kc rfl (kc rfl (kc rfl (kc rfl (kc rfl (kc rfl kn))))))))) (kc rfl kn) (sqn (eseq (ereg (qp rfl (hlda rfl rfl (lc rfl (lc rfl (ln rfl))) (hcall rfl rfl rfl (c1_c _ ds a seen pa pb pm hD.hA hD.hB hD.hM hD.bm) ?_))))))))))
 rintro _ S1 ⟨rfl,hc1,hc2⟩
 refine qb ?_
 rintro (_ | _) h2
 ·refine qp J (qn (kq9 J) kn (ecT J (er (qp J (qn (kq1 J) kn (eret (bqr (sqr ?_))))))))
  have hx:xtorOk ds.length seen a=false:=by assumption
  exact hR (by rw [hd];simp [xtorsOk,hx]) _ hc1
 refine qp J (qn (kq9 J) kn (ecF J (eskip (bqn (sqn (ereg (hadd J J (i64w (by omega)) (qp J (qk (kq8 J) kn ?_)))))))))
 have hx:xtorOk ds.length seen a=true:=by assumption
 exact dV_l2 ds l (seen ++ [a.name]) (i + 1) (by omega) hs (hD.step hc1 (hc2 hx)) (fun S2 seen2 j e c d=>hX S2 seen2 j (by rw [hd];simp only [xtorsOk,hx,if_true];exact e) (hc1.trans c) d) (fun e S2 c=>hR (by rw [hd];simp only [xtorsOk,hx,if_true];exact e) S2 (hc1.trans c))
termination_by l.length - i
decreasing_by all_goals omega
theorem DV.keep {ds:List Decl} {a b m:Nat} {seen:List ByteArray} {S S':Sg} {X:Nat → Prop} (h:DV ds a b m seen S) (k:Chg X S S') (ha:¬ X a) (hb:¬ X b) (hm:¬ X m):DV ds a b m seen S' :=
 ⟨(k.ob a h.al ha).trans h.hA,(k.ob b h.bl hb).trans h.hB,(k.ob m h.ml hm).trans h.hM,Nat.lt_of_lt_of_le h.al k.nx,Nat.lt_of_lt_of_le h.bl k.nx,Nat.lt_of_lt_of_le h.ml k.nx,h.am,h.bm⟩
structure DN (pa pb pm pn:Nat) (names:List ByteArray) (S:Sg):Prop where
 hN:S.ob pn=some (.map .str (setS names))
 nl:pn < S.nx
 na:pa ≠ pn
 nb:pb ≠ pn
 nm:pm ≠ pn
theorem DN.step {pa pb pm pn:Nat} {names names':List ByteArray} {S S':Sg} {X:Nat → Prop} (h:DN pa pb pm pn names S) (k:Chg X S S') (hn:S'.ob pn=some (.map .str (setS names'))):DN pa pb pm pn names' S' :=
 ⟨hn,Nat.lt_of_lt_of_le h.nl k.nx,h.na,h.nb,h.nm⟩
theorem dV_l1 {pa pb pm pn:Nat} (ds:List Decl) (seen:List ByteArray) (i:Nat) (hi:i ≤ ds.length) (hs:ds.length ≤ 2 ^ 40) {n:Nat} {v:Nat → Bool} {D:List (Nat × List AV)} {S:Sg} {Q:Ex → Fr → Prop}
 (hQ:QOK S) (hD:DV ds pa pb pm seen S) (hN:DN pa pb pm pn ((ds.take i).map Decl.name) S) (hX:∀ S' j,declsOk ds.length ((ds.take i).map Decl.name) seen (ds.drop i)=true → Chg (fun j=>j=pm ∨ j=pn) S S' → Q (.exit 0) ⟨upd (upd (upd (upd (upd (upd ((fun _=>none)) 19 (some (.val (B false)))) 18 (some (.val (I j)))) 17 (some (.val (I (ds.map Decl.enc).length)))) 16 (some (.val (.slice .none 3 (ds.map Decl.enc))))) 5 (some (.val (.fn N101_ [] [.ptr pa 0,.ptr pb 0])))) 3 (some (.val (.map pn))),(fun _=>none),n,v,D,S'⟩)
 (hR:declsOk ds.length ((ds.take i).map Decl.name) seen (ds.drop i)=false → ∀ S',Chg (fun j=>j=pm ∨ j=pn) S S' → Q .ret ⟨upd ((fun _=>none)) 2 (some (.val (B false))),(fun _=>none),n,v,D,S'⟩):EX (callL p) (.loop F56_l1) ⟨upd (upd (upd (upd (upd ((fun _=>none)) 18 (some (.val (I i)))) 17 (some (.val (I (ds.map Decl.enc).length)))) 16 (some (.val (.slice .none 3 (ds.map Decl.enc))))) 5 (some (.val (.fn N101_ [] [.ptr pa 0,.ptr pb 0])))) 3 (some (.val (.map pn))),(fun _=>none),n,v,D,S⟩ Q:=by
 refine eloop (er (qp J (qb ?_)))
 rintro (_ | _) h1
 refine qn (kq6 J) kn (eseq (ecF J (eexit (sqx ?_))))
 exact hX _ _ (by rw [List.drop_eq_nil_of_le (by simp at h1 ⊢;omega)];rfl) (Chg.refl _)
 refine qn (kq6 J) kn (eseq (ecT J (eskip (sqn (eseq (eblock (er ?_)))))))
 have hlt:i < ds.length:=by simpa using h1
 obtain ⟨a,ha⟩:=get_of_lt hlt
 have hd:=drop_cons ha
 refine hia (y:=Decl.enc a) rfl rfl (by omega) (by simp [ha]) rfl (hlda rfl rfl (lc rfl (lc rfl (lc rfl (ln rfl)))) (hal (dc (dc (dc (dc (dc (dc (dc (dc dn rfl) rfl) rfl) rfl) rfl) rfl) rfl) rfl) (hstl rfl rfl rfl rfl (Nlb rfl) (lc rfl (lc rfl (lc rfl (ln rfl)))) (qk (kc rfl (kc rfl (kc rfl (kc rfl (kc rfl (kc rfl kn)))))) (kc rfl kn) (sqn (eseq (eseq (ereg (qp rfl (qp rfl (hcall rfl rfl rfl (dName_c _ hQ _) ?_)))))))))))
 rintro _ S1 ⟨rfl,rfl⟩
 refine qb ?_
 rintro (_ | _) h2
 refine pq2 J (zq4 J (pq2 J (zq4 J (pq2 J (zq4 J (qp J (qn (kq7 J) (kq1 J) (ecT J (er ?_)))))))))
 refine qp J (qn (kq1 J) kn (eret (sqr (bqr (sqr ?_)))))
 rotate_left
 refine pq2 J (qg J (qp J (qg J (qp J (qg J (qp J (qg J (hlk J J J hN.hN ?_))))))))
 rw [setS_get]
 refine qb ?_
 rintro (_ | _) h3
 refine pq2 J (qg J (qp J (qg J (qp J (qg J (qp J (qg J (qp J (qb ?_)))))))))
 rintro (_ | _) h4
 refine pq2 J (qg J (qp J (qg J (qp J (qg J (qp J (qg J (qp J (qb ?_)))))))))
 rintro (_ | _) h5
 refine qp J (qn (kq7 J) (kq1 J) (ecF J (eskip (sqn (er (pq3 J (hmu J J J J hN.hN ?_)))))))
 rw [show (AV.lit (.bool true)).er=B true from rfl,setS_add]
 refine qn (kq6 J) (kq1 J) (er (pq4 J (qn (kq8 J) kn (eblock ?_))))
 have hD1:=hD.keep (X:=(·=pn)) (Chg.set (Chg.refl S1) (i:=pn) (o:=.map .str (setS ((ds.take i).map Decl.name ++ [a.name]))) fun _=>rfl) hN.na hN.nb hN.nm
 refine dV_l2 ds a.xtors seen 0 (by omega) (by simp at *;omega) hD1 ?_ ?_
 intro S' seen' j hx hc hD'
 refine bqx (bqn (sqn (ereg (hadd J J (i64w (by omega)) (qp J (qk (kq5 J) kn ?_))))))
 have e:(ds.take (i + 1)).map Decl.name=(ds.take i).map Decl.name ++ [a.name]:=by simp [List.take_add_one,ha]
 have e2:declOk ((ds.take i).map Decl.name) a=true:=by
  clear hX hR
  simp_all [declOk,-List.all_eq_true,-List.all_eq_false,-List.any_eq_true,-List.any_eq_false] <;> omega
 have hy:declsOk ds.length ((ds.take i).map Decl.name) seen (ds.drop i)=declsOk ds.length ((ds.take (i + 1)).map Decl.name) seen' (ds.drop (i + 1)):=by
  rw [hd,e]
  simp only [declsOk,e2,Bta]
  rw [show xtorsOk ds.length seen a.xtors=some seen' from hx]
 have hcc:Chg (fun j=>j=pm ∨ j=pn) S1 S':=(Chg.set (Chg.refl _) fun _=>.inr rfl).trans (hc.mono fun j _ h=>.inl h)
 have hq1:QOK S':=by unfold QOK;rw [hcc.Q];exact hQ
 exact dV_l1 ds seen' (i + 1) (by omega) hs hq1 hD' (hN.step hcc (by rw [e,hc.ob pn hN.nl (Ne.symm hN.nm)];exact set_ob)) (fun S2 j h c=>hX S2 j (hy.trans h) (hcc.trans c)) (fun h S2 c=>hR (hy.trans h) S2 (hcc.trans c))
 intro hx S' hc
 refine bqr (bqr (sqr ?_))
 rotate_left
 refine qp J (qn (kq7 J) (kq1 J) (ecT J (er (qp J (qn (kq1 J) kn (eret (sqr (bqr (sqr ?_)))))))))
 rotate_left
 refine pq2 J (zq4 J (qp J (qn (kq7 J) (kq1 J) (ecT J (er (qp J (qn (kq1 J) kn (eret (sqr (bqr (sqr ?_)))))))))))
 rotate_left
 refine pq2 J (zq4 J (pq2 J (zq4 J (qp J (qn (kq7 J) (kq1 J) (ecT J (er (qp J (qn (kq1 J) kn (eret (sqr (bqr ?_))))))))))))
 refine sqr ?_
 rotate_left
 all_goals
  have hy:declsOk ds.length ((ds.take i).map Decl.name) seen (ds.drop i)=false:=by
   rw [hd]
   clear hX hR
   simp_all [declsOk,declOk,-List.all_eq_true,-List.all_eq_false,-List.any_eq_true,-List.any_eq_false] <;> omega
  exact hR hy _ (by first | exact Chg.refl _ | exact (Chg.set (Chg.refl _) fun _=>.inr rfl).trans (hc.mono fun j _ h=>.inl h))
termination_by ds.length - i
decreasing_by all_goals omega
theorem dv_init (s:Sg) (l:List Decl) :
 let S1:=s.new (.row [SL 3 (l.map Decl.enc)])
 let S2:=S1.new (.map .str fun _=>none)
 let S3:=S2.new (.map .str fun _=>none)
 let S5:=(S3.new (.row [.lit (.map none)])).set S3.nx (.row [.map S2.nx])
 DV l S3.nx s.nx S2.nx [] S5 ∧ DN S3.nx s.nx S2.nx S1.nx [] S5 ∧ Chg (fun j=>s.nx ≤ j) s S5 ∧ S2.nx=s.nx + 2 ∧ S1.nx=s.nx + 1:=by
 refine ⟨⟨?_,?_,?_,?_,?_,?_,?_,?_⟩,⟨?_,?_,?_,?_,?_⟩,?_,J,J⟩
 all_goals first
  | (simp [Sg.set,Sg.new,upd,setS_nil];done)
  | (simp [Sg.set,Sg.new,upd,setS_nil];omega)
  | (rw [set_ne (by simp only [Sg.new];omega),new_lt (by simp only [Sg.new];omega),new_lt (by simp only [Sg.new];omega),new_lt (by simp only [Sg.new];omega)];exact new_ob)
  | (simp only [Sg.set,Sg.new];omega)
  | (refine Chg.set (Chg.new (Chg.new (Chg.new (Chg.new (Chg.refl s))))) fun _=>?_;simp only [Sg.new];omega)
theorem dValid_c (s:Sg) (hQ:QOK s) (l:List Decl) (hl:l.length ≤ 2 ^ 40):HC p N56_ [SL 3 (l.map Decl.enc)] s (fun r s'=>r=[B (declsValid l)] ∧ Ext s s'):=by
 refine hcf J f56_ J ?_
 simp only [chainOf]
 refine er (hboxo J (lq1 J) (qp J (qn (kq1 J) kn (eseq (er (hldo J new_ob J ?_))))))
 refine pq2 J (qb ?_)
 rintro (_ | _) h1
 refine qn (kq2 J) kn (ecF J (eskip (sqn (er (hmkm (hmkm (hall (qp J (hsto J J new_ob J (Nlb J) (by simp) (by rfl) (qn (kq3 J) kn (er (pq2 J (qn (kq3 J) kn (eseq (er (hldo J (dv_init s l).1.hB J ?_))))))))))))))))
 refine pq2 J (qn (kq5 J) kn (eblock ?_))
 refine dV_l1 l [] 0 (by omega) (by omega) hQ (dv_init s l).1 (dv_init s l).2.1 ?_ ?_
 intro S' j hx hc
 refine bqx (sqn (er (qp J (qn (kq1 J) kn (eret (fqr J ?_))))))
 have hv:declsValid l=true:=by
  unfold declsValid
  have hx':declsOk l.length [] [] l=true:=hx
  rw [hx'];simp at *;omega
 refine ⟨by rw [hv];rfl,?_⟩
 obtain ⟨_,_,i3,i4,i5⟩:=dv_init s l
 exact (i3.trans (hc.mono fun j _ h=>by rcases h with h | h <;> (rw [h];simp only [Sg.new];omega))).ext fun i h=>h
 intro hx S' hc
 refine bqr (sqr (fqr J ?_))
 rotate_left
 refine qn (kq2 J) kn (ecT J (er (qp J (qn (kq1 J) kn (eret (sqr (fqr J ?_)))))))
 rotate_left
 all_goals
  first
  | (have hv:declsValid l=false:=by
      unfold declsValid
      have hx':declsOk l.length [] [] l=false:=hx
      rw [hx'];simp
     refine ⟨by rw [hv];rfl,?_⟩
     obtain ⟨_,_,i3,i4,i5⟩:=dv_init s l
     exact (i3.trans (hc.mono fun j _ h=>by rcases h with h | h <;> (rw [h];simp only [Sg.new];omega))).ext fun i h=>h)
  | (refine ⟨?_,Ext.new⟩;simp_all [AV.ers,AV.er,declsValid];try omega)
def sideOf (co:Bool):Int:=if co then 1 else 0
def sortOf (x:Int):Int:=if x < 0 ∨ 14 < x then -1 else if x ≤ 4 then 0 else if x ≤ 8 then 1 else 2
def numOk (x:Int):Bool:=decide (0 ≤ x) && decide (x ≤ 1048576)
def leafOp (x:Int):Bool:=decide (x=0) || decide (x=5) || decide (x=1)
def declAt (ds:List Decl) (t:Int):Option Decl:=if 1 ≤ t then ds[(t - 1).toNat]? else none
theorem declAt_none {ds:List Decl} {t:Int} (h:t < 1 ∨ ds.length < t):declAt ds t=none:=by
 unfold declAt
 split
 ·exact List.getElem?_eq_none (by omega)
 rfl
theorem declAt_bounds {ds:List Decl} {t:Int} {d:Decl} (h:declAt ds t=some d):1 ≤ t ∧ t ≤ ds.length:=by
 unfold declAt at h
 split at h
 ·rcases Nat.lt_or_ge (t - 1).toNat ds.length with h' | h'
  ·omega
  rw [List.getElem?_eq_none h'] at h;cases h
 cases h
theorem cside_c (s:Sg) (b:Bool):HC p N106_ [B b] s (fun r s'=>r=[I (sideOf b)] ∧ s'=s):=by
 refine hcf J f106_ J ?_
 simp only [chainOf]
 refine er (qp J (qn (kq1 J) kn (eseq (er (qp J (qb ?_))))))
 rintro (_ | _) h1
 ·refine qn (kq1 J) kn (ecF J (eskip (sqn (er (qp J (qn (kq1 J) kn (eret (fqr J ?_))))))))
  refine ⟨?_,rfl⟩;simp_all [AV.ers,AV.er,sideOf] <;> omega
 refine qn (kq1 J) kn (ecT J (er (qp J (qn (kq1 J) kn (eret (sqr (fqr J ?_)))))))
 refine ⟨?_,rfl⟩;simp_all [AV.ers,AV.er,sideOf] <;> omega
theorem number_c (s:Sg) (x:Int):HC p N107_ [I x] s (fun r s'=>r=[B (numOk x)] ∧ s'=s):=by
 refine hcf J f107_ J ?_
 simp only [chainOf]
 refine er (qp J (qn (kq1 J) kn (er (pq2 J (qb ?_)))))
 rintro (_ | _) h1
 ·refine qp J (zq2 J (pq2 J (qn (kq1 J) kn (eret (fqr J ?_)))))
  refine ⟨?_,rfl⟩;simp_all [AV.ers,AV.er,numOk] <;> omega
 refine qp J (qg J (qp J (qg J (pq3 J (qn (kq1 J) kn (eret (fqr J ?_)))))))
 refine ⟨?_,rfl⟩;simp_all [AV.ers,AV.er,numOk] <;> omega
theorem Sort_c (s:Sg) (x:Int):HC p N62_ [I x] s (fun r s'=>r=[I (sortOf x)] ∧ s'=s):=by
 refine hcf J f62_ J ?_
 simp only [chainOf]
 refine er (qp J (qn (kq1 J) kn (eseq (eblock (er (pq2 J (qb ?_)))))))
 rintro (_ | _) h1
 refine qp J (qg J (qp J (qg J (qp J (qb ?_)))))
 rintro (_ | _) h2
 refine pq2 J (qn (kq2 J) kn (ecF J (er (pq2 J (qb ?_)))))
 rintro (_ | _) h3
 refine qp J (qn (kq2 J) kn (ecF J (er (pq2 J (qb ?_)))))
 rintro (_ | _) h4
 refine qp J (qn (kq1 J) kn (ecF J (eskip (bqn (sqn (er (qp J (qn (kq1 J) kn (eret (fqr J ?_))))))))))
 rotate_left
 refine qp J (qn (kq1 J) kn (ecT J (er (qp J (qn (kq1 J) kn (eret (bqr (sqr (fqr J ?_)))))))))
 rotate_left
 refine qp J (qn (kq2 J) kn (ecT J (er (qp J (qn (kq1 J) kn (eret (bqr (sqr (fqr J ?_)))))))))
 rotate_left
 refine pq2 J (qn (kq2 J) kn (ecT J (er (qp J (qn (kq1 J) kn (eret (bqr (sqr (fqr J ?_)))))))))
 rotate_left
 refine qp J (zq2 J (pq2 J (qn (kq2 J) kn (ecT J (er (qp J (qn (kq1 J) kn (eret (bqr (sqr (fqr J ?_)))))))))))
 rotate_left
 all_goals
  refine ⟨?_,rfl⟩;simp [AV.ers,AV.er,sortOf] at *;try omega
theorem take_map {α β:Type} {g:α → β} {l:List α} {i:Nat} {a:α} (ha:l[i]?=some a):(l.take i).map g ++ [g a]=(l.take (i + 1)).map g:=by simp [List.take_add_one,ha]
theorem sides_l (l:List Arg) (o:Own) (i:Nat) (hi:i ≤ l.length) (hs:l.length ≤ 2 ^ 40) {n:Nat} {v:Nat → Bool} {D:List (Nat × List AV)} {S:Sg} {Q:Ex → Fr → Prop}
 (hc:Can o v) (hX:∀ j n' v' o',Can o' v' → Q (.exit 0) ⟨upd (upd (upd (upd (upd ((fun _=>none)) 9 (some (.val (B false)))) 8 (some (.val (I j)))) 7 (some (.val (I (l.map Arg.enc).length)))) 6 (some (.val (.slice .none 2 (l.map Arg.enc))))) 3 (some (.val (.slice o' 1 (l.map (fun a=>B a.co))))),(fun _=>none),n',v',D,S⟩):EX (callL p) (.loop F61_l1) ⟨upd (upd (upd (upd ((fun _=>none)) 8 (some (.val (I i)))) 7 (some (.val (I (l.map Arg.enc).length)))) 6 (some (.val (.slice .none 2 (l.map Arg.enc))))) 3 (some (.val (.slice o 1 ((l.take i).map (fun a=>B a.co))))),(fun _=>none),n,v,D,S⟩ Q:=by
 refine eloop (er (qp J (qb ?_)))
 rintro (_ | _) h1
 ·refine qn (kq5 J) kn (eseq (ecF J (eexit (sqx ?_))))
  have he:i=l.length:=by simp at h1;omega
  subst he
  rw [List.take_length]
  exact hX _ _ _ _ hc
 refine qn (kq5 J) kn (eseq (ecT J (eskip (sqn (eseq (eblock (er ?_)))))))
 have hlt:i < l.length:=by simpa using h1
 obtain ⟨a,ha⟩:=get_of_lt hlt
 have hd:=drop_cons ha
 refine hia (y:=Arg.enc a) rfl rfl (by omega) (by simp [ha]) rfl (hlda rfl rfl (lc rfl (lc rfl (ln rfl))) (hal (dc (dc (dc (dc (dc (dc (dc dn rfl) rfl) rfl) rfl) rfl) rfl) rfl) (hstl rfl rfl rfl rfl (Nlb rfl) (lc rfl (lc rfl (ln rfl))) (qk (kc rfl (kc rfl (kc rfl (kc rfl (kc rfl kn))))) (kc rfl kn) (sqn (ereg (qp rfl (qp rfl (qp rfl (hbsl rfl rfl (lc rfl (ln rfl)) (hapC rfl rfl hc (by simp) (by simp;omega) (r:=(l.take (i + 1)).map (fun a=>B a.co)) (by rw [← take_map (g:=fun a=>B a.co) ha];simp_all [AV.ers,AV.er,AV.er,sideOf]) ?_)))))))))))
 intro v1 hc1 _
 refine qp J (qk (kq4 J) kn (bqn (sqn (ereg (hadd J J (i64w (by omega)) (qp J (qk (kq4 J) kn ?_)))))))
 exact sides_l l (.tip n) (i + 1) (by omega) hs hc1 hX
termination_by l.length - i
decreasing_by all_goals omega
theorem sides_c (s:Sg) (l:List Arg) (hl:l.length ≤ 2 ^ 40):HC p N61_ [SL 2 (l.map Arg.enc)] s (fun r s'=>r=[SL 1 (l.map (fun a=>B a.co))] ∧ s'=s):=by
 refine hcf J f61_ J ?_
 simp only [chainOf]
 refine er (qp J (qn (kq1 J) kn (er (qp J (qn (kq2 J) kn (eseq (er (pq3 J (qn (kq4 J) kn (eblock (sides_l l .full 0 (by omega) hl trivial ?_)))))))))))
 intro j n' v' o' hc
 refine bqx (sqn (er (pq2 J (qn (kq1 J) kn (eret (fqr J ?_))))))
 exact ⟨rfl,rfl⟩
mutual
def nAll:Node → Nat
 | .mk _ _ _ args brs=>1 + nAlls args + bAlls brs
def nAlls:List Node → Nat
 | []=>0
 | a :: as=>nAll a + nAlls as
def bAll:Br → Nat
 | .mk _ _ body=>nAll body
def bAlls:List Br → Nat
 | []=>0
 | a :: as=>bAll a + bAlls as
end
theorem nAlls_eq (l:List Node):nAlls l=szL nAll l:=by induction l with
 | nil=>rfl
 | cons a l ih=>simp [nAlls,szL,ih]
theorem bAll_eq (b:Br):bAll b=nAll b.body:=by cases b;rfl
theorem bAlls_eq (l:List Br):bAlls l=szL (fun b=>nAll b.body) l:=by induction l with
 | nil=>rfl
 | cons a l ih=>simp [bAlls,szL,ih,bAll_eq]
theorem nAll_eq (a:Node):nAll a=1 + szL nAll a.args + szL (fun b=>nAll b.body) a.brs:=by
 cases a
 simp only [nAll,nAlls_eq,bAlls_eq]
 rfl
theorem szL_drop {α:Type} {f:α → Nat} {l:List α} {i:Nat} {a:α} (h:l[i]?=some a):szL f (l.drop i)=f a + szL f (l.drop (i + 1)):=by rw [drop_cons h];rfl
theorem szL_end {α:Type} {f:α → Nat} {l:List α} {i:Nat} (h:l.length ≤ i):szL f (l.drop i)=0:=by rw [List.drop_eq_nil_of_le h];rfl
def LeftC (b:Node):Prop:=∀ (s:Sg) (m:Int),1 ≤ m → m ≤ 2 ^ 40 → HC p N50_ [.agg b.cs,I m] s (fun r s'=>r=[I (max (m - nAll b) 0)] ∧ s'=s)
theorem left_l1 (a:Node) (H:∀ b ∈ a.args,LeftC b) (hs:a.args.length ≤ 2 ^ 40) (i:Nat) (hi:i ≤ a.args.length) (m:Int) (hm:0 ≤ m) (hm2:m ≤ 2 ^ 40) {n:Nat} {v:Nat → Bool} {D:List (Nat × List AV)} {S:Sg} {Q:Ex → Fr → Prop}
 (hX:∀ j k,k=max (m - szL nAll (a.args.drop i)) 0 → Q (.exit 0) ⟨upd (upd (upd (upd ((fun _=>none)) 17 (some (.val (B false)))) 5 (some (.val (I j)))) 2 (some (.loc 2 0))) 1 (some (.val (I k))),upd ((fun _=>none)) 2 (some (a.cs)),n,v,D,S⟩):EX (callL p) (.loop F50_l1) ⟨upd (upd (upd ((fun _=>none)) 5 (some (.val (I i)))) 2 (some (.loc 2 0))) 1 (some (.val (I m))),upd ((fun _=>none)) 2 (some (a.cs)),n,v,D,S⟩ Q:=by
 refine eloop (eseq (er (pq5 J (qb ?_))))
 rintro (_ | _) h1
 ·refine qp J (zq2 J (qp J (qn (kq4 J) (kq1 J) (ecF J (eexit (sqx ?_))))))
  first
  | exact hX _ _ (by rw [szL_end (by simp at h1;omega)];omega)
  | exact hX _ _ (by simp at *;omega)
 refine qp J (qg J (qp J (qg J (qp J (qb ?_)))))
 rintro (_ | _) h2
 ·refine qp J (qn (kq4 J) (kq1 J) (ecF J (eexit (sqx ?_))))
  first
  | exact hX _ _ (by rw [szL_end (by simp at h1;omega)];omega)
  | exact hX _ _ (by simp at *;omega)
 refine qp J (qn (kq4 J) (kq1 J) (ecT J (eskip (sqn (eseq (eblock (ereg (pq3 J ?_))))))))
 have hlt:i < a.args.length:=by simpa using h1
 have hm1:1 ≤ m:=by simp at *;omega
 obtain ⟨b,hb⟩:=get_of_lt hlt
 refine hia (y:=.agg (b.cs)) rfl rfl (by omega) (by simp [hb,Node.enc_eq]) rfl (hlda rfl rfl (lc rfl (lc rfl (lc rfl (lc rfl (lc rfl (ln rfl)))))) (qp rfl (hcall rfl rfl rfl (H b (Lmg hb) _ m hm1 hm2) ?_)))
 rintro _ _ ⟨rfl,rfl⟩
 refine qp J (qk (kq3 J) (kq1 J) (bqn (sqn (ereg (qp J (hadd J J (i64w (by omega)) (qp J (qk (kq3 J) (kq1 J) ?_))))))))
 exact left_l1 a H hs (i + 1) (by omega) _ (by omega) (by omega) (fun j k h=>hX j k (by rw [szL_drop hb,h];omega))
termination_by a.args.length - i
decreasing_by all_goals omega
theorem left_l2 (a:Node) (H:∀ b ∈ a.brs,LeftC b.body) (hs:a.brs.length ≤ 2 ^ 40) (i:Nat) (hi:i ≤ a.brs.length) (m:Int) (hm:0 ≤ m) (hm2:m ≤ 2 ^ 40) {n:Nat} {v:Nat → Bool} {D:List (Nat × List AV)} {S:Sg} {Q:Ex → Fr → Prop}
 (hX:∀ j k,k=max (m - szL (fun b=>nAll b.body) (a.brs.drop i)) 0 → Q (.exit 2) ⟨upd (upd (upd (upd ((fun _=>none)) 35 (some (.val (B false)))) 6 (some (.val (I j)))) 2 (some (.loc 2 0))) 1 (some (.val (I k))),upd ((fun _=>none)) 2 (some (a.cs)),n,v,D,S⟩):EX (callL p) (.loop F50_l2) ⟨upd (upd (upd ((fun _=>none)) 6 (some (.val (I i)))) 2 (some (.loc 2 0))) 1 (some (.val (I m))),upd ((fun _=>none)) 2 (some (a.cs)),n,v,D,S⟩ Q:=by
 refine eloop (eseq (er (pq5 J (qb ?_))))
 rintro (_ | _) h1
 ·refine qp J (zq2 J (qp J (qn (kq4 J) (kq1 J) (ecF J (eexit (sqx ?_))))))
  first
  | exact hX _ _ (by rw [szL_end (by simp at h1;omega)];omega)
  | exact hX _ _ (by simp at *;omega)
 refine qp J (qg J (qp J (qg J (qp J (qb ?_)))))
 rintro (_ | _) h2
 ·refine qp J (qn (kq4 J) (kq1 J) (ecF J (eexit (sqx ?_))))
  first
  | exact hX _ _ (by rw [szL_end (by simp at h1;omega)];omega)
  | exact hX _ _ (by simp at *;omega)
 refine qp J (qn (kq4 J) (kq1 J) (ecT J (eskip (sqn (eseq (eblock (ereg (pq3 J ?_))))))))
 have hlt:i < a.brs.length:=by simpa using h1
 have hm1:1 ≤ m:=by simp at *;omega
 obtain ⟨b,hb⟩:=get_of_lt hlt
 refine hia (y:=.agg (ints b.vars :: bools b.co :: b.body.cs)) rfl rfl (by omega) (by simp [hb,Br.enc_eq]) rfl (qp rfl (hlda rfl rfl (lc rfl (lc rfl (lc rfl (lc rfl (lc rfl (ln rfl)))))) (qp rfl (hcall rfl rfl rfl (H b (Lmg hb) _ m hm1 hm2) ?_))))
 rintro _ _ ⟨rfl,rfl⟩
 refine qp J (qk (kq3 J) (kq1 J) (bqn (sqn (ereg (qp J (hadd J J (i64w (by omega)) (qp J (qk (kq3 J) (kq1 J) ?_))))))))
 exact left_l2 a H hs (i + 1) (by omega) _ (by omega) (by omega) (fun j k h=>hX j k (by rw [szL_drop hb,h];omega))
termination_by a.brs.length - i
decreasing_by all_goals omega
theorem left_c0 (a:Node) (hz:a.sz ≤ 2 ^ 40) (H1:∀ b ∈ a.args,LeftC b) (H2:∀ b ∈ a.brs,LeftC b.body) (s:Sg) (m:Int) (h1:1 ≤ m) (h2:m ≤ 2 ^ 40):HC p N50_ [.agg a.cs,I m] s (fun r s'=>r=[I (max (m - nAll a) 0)] ∧ s'=s):=by
 refine hcf J f50_ J ?_
 simp only [chainOf]
 refine eseq (ereg (hbox (dc (dc dn rfl) rfl) rfl (lc rfl (lc rfl (lc rfl (lc rfl (lc rfl (ln rfl)))))) (qp rfl (qk (kc rfl (kc rfl kn)) (kc rfl kn) (sqn (eseq (ereg (qp rfl (hsub rfl rfl (i64w (by omega)) (qp rfl (qk (kc rfl (kc rfl kn)) (kc rfl kn) (sqn (eseq (eseq (ereg (qp rfl (qk (kc rfl (kc rfl (kc rfl kn))) (kc rfl kn) (sqn (eblock (left_l1 a H1 (by have:=a.sz_args;omega) 0 (by omega) _ (by omega) (by omega) ?_))))))))))))))))))))
 intro j k hk
 refine bqx (sqn (eseq (eseq (ereg (qp rfl (qk (kc rfl (kc rfl (kc rfl kn))) (kc rfl kn) (sqn (eblock (left_l2 a H2 (by have:=a.sz_brs;omega) 0 (by omega) _ (by omega) (by omega) ?_)))))))))
 intro j q hq
 refine bqx (sqn (er (pq3 J (qn (kq1 J) kn (eret (fqr J ?_))))))
 have e:=nAll_eq a
 simp only [List.drop_zero] at hk hq
 refine ⟨congrArg (fun x=>[I x]) ?_,J⟩
 show (if (0:Int) > q then 0 else q)=_
 split <;> omega
theorem left_c (a:Node) (hz:a.sz ≤ 2 ^ 40):LeftC a:=by
 induction a using Node.ind with
 | h a ih1 ih2 =>
   exact left_c0 a hz (fun b hb=>ih1 b hb (by have:=Node.sz_arg hb;omega)) (fun b hb=>ih2 b hb (by have:=Node.sz_br hb;have:=b.sz_body;omega))
theorem Fits_c (s:Sg) (a:Node) (hz:a.sz ≤ 2 ^ 40) (m:Int) (h0:0 ≤ m) (hm:m < 2 ^ 40):HC p N17_ [.agg a.cs,I m] s (fun r s'=>r=[B (decide ((nAll a:Int) ≤ m))] ∧ s'=s):=by
 refine hcf J f17_ J ?_
 simp only [chainOf]
 refine er (hbox (dq2 J) J (lq5 J) (qp J (qn (kq2 J) (kq1 J) (er (hlda J J (lq5 J) (qp J (hadd J J (i64w (by omega)) (hcall J J J (left_c a hz _ _ (by omega) (by omega)) ?_))))))))
 rintro _ _ ⟨rfl,rfl⟩
 refine pq2 J (qn (kq1 J) kn (eret (fqr J ?_)))
 refine ⟨congrArg (fun x=>[B x]) ?_,J⟩
 rw [Bool.eq_iff_iff]
 simp
 omega
theorem fun_sz {l:List CFun} {i:Nat} {a:CFun} (ha:l[i]?=some a) (hz:szL CFun.sz l ≤ 2 ^ 40):a.body.sz ≤ 2 ^ 40:=by
 have h1:=szL_mem (f:=CFun.sz) (Lmg ha)
 have h2:a.body.sz ≤ a.sz:=by unfold CFun.sz;omega
 omega
theorem Few_l (l:List CFun) (m:Int) (h0:0 ≤ m) (hm:m < 2 ^ 40) (hz:szL CFun.sz l ≤ 2 ^ 40) (i:Nat) (hi:i ≤ l.length) (hs:l.length ≤ 2 ^ 40) {n:Nat} {v:Nat → Bool} {D:List (Nat × List AV)} {S:Sg} {Q:Ex → Fr → Prop}
 (hX:∀ j,((l.drop i).all fun f=>decide ((nAll f.body:Int) ≤ m))=true → Q (.exit 0) ⟨upd (upd (upd (upd (upd ((fun _=>none)) 21 (some (.val (B false)))) 20 (some (.val (I j)))) 19 (some (.val (I (l.map CFun.enc).length)))) 18 (some (.val (.slice .none 8 (l.map CFun.enc))))) 1 (some (.val (I m))),(fun _=>none),n,v,D,S⟩) (hR:((l.drop i).all fun f=>decide ((nAll f.body:Int) ≤ m))=false → Q .ret ⟨upd ((fun _=>none)) 4 (some (.val (B false))),(fun _=>none),n,v,D,S⟩):EX (callL p) (.loop F6_l1) ⟨upd (upd (upd (upd ((fun _=>none)) 20 (some (.val (I i)))) 19 (some (.val (I (l.map CFun.enc).length)))) 18 (some (.val (.slice .none 8 (l.map CFun.enc))))) 1 (some (.val (I m))),(fun _=>none),n,v,D,S⟩ Q:=by
 refine eloop (er (qp J (qb ?_)))
 rintro (_ | _) h1
 ·refine qn (kq5 J) kn (eseq (ecF J (eexit (sqx ?_))))
  exact hX _ (by rw [List.drop_eq_nil_of_le (by simp at h1 ⊢;omega)];rfl)
 refine qn (kq5 J) kn (eseq (ecT J (eskip (sqn (eseq (eblock (er ?_)))))))
 have hlt:i < l.length:=by simpa using h1
 obtain ⟨a,ha⟩:=get_of_lt hlt
 have hd:=drop_cons ha
 refine hia (y:=.agg (Str a.name :: encArgs a.params :: ints a.vars :: a.body.cs)) rfl rfl (by omega) (by simp [ha,Node.enc_eq,Br.enc_eq,CFun.enc_eq]) rfl (hlda rfl rfl (lc rfl (lc rfl (lc rfl (lc rfl (lc rfl (lc rfl (lc rfl (lc rfl (ln rfl))))))))) (hal (dc (dc (dc (dc (dc (dc (dc dn rfl) rfl) rfl) rfl) rfl) rfl) rfl) (hstl rfl rfl rfl rfl (Nlb rfl) (lc rfl (lc rfl (lc rfl (lc rfl (lc rfl (lc rfl (lc rfl (lc rfl (ln rfl))))))))) (qk (kc rfl (kc rfl (kc rfl (kc rfl (kc rfl kn))))) (kc rfl kn) (sqn (eseq (ereg (qp rfl (hlda rfl rfl (lc rfl (lc rfl (lc rfl (lc rfl (lc rfl (ln rfl)))))) (qp rfl (hcall rfl rfl rfl (Fits_c _ a.body (fun_sz ha hz) m h0 hm) ?_)))))))))))
 rintro _ _ ⟨rfl,rfl⟩
 refine qb ?_
 rintro (_ | _) h2
 ·refine qp J (qn (kq5 J) kn (ecT J (er (qp J (qn (kq1 J) kn (eret (bqr (sqr ?_))))))))
  exact hR (by rw [hd,List.all_cons,h2];rfl)
 refine qp J (qn (kq5 J) kn (ecF J (eskip (bqn (sqn (ereg (hadd J J (i64w (by omega)) (qp J (qk (kq4 J) kn ?_)))))))))
 exact Few_l l m h0 hm hz (i + 1) (by omega) hs (fun j h=>hX j (by rw [hd];simp_all)) (fun h=>hR (by rw [hd];simp_all))
termination_by l.length - i
decreasing_by all_goals omega
def fewOk (c:Core) (m:Int):Bool:=decide (c.decls.length ≤ 40) && decide (c.funs.length ≤ 40) && c.funs.all fun f=>decide ((nAll f.body:Int) ≤ m)
def Core.cs (c:Core):List AV:=[SL 3 (c.decls.map Decl.enc),SL 8 (c.funs.map CFun.enc)]
theorem CFun.sz_pos (f:CFun):1 ≤ f.sz:=by unfold CFun.sz;omega
theorem Few_c (s:Sg) (c:Core) (hz:c.sz ≤ 2 ^ 40) (m:Int) (h0:0 ≤ m) (hm:m < 2 ^ 40):HC p N6_ [.agg (Core.cs c),I m] s (fun r s'=>r=[B (fewOk c m)] ∧ s'=s):=by
 refine hcf J f6_ J ?_
 simp only [chainOf]
 refine er (hbox (dq2 J) J (lq2 J) (qp J (qn (kq2 J) (kq1 J) (eseq (er (pq4 J (qb ?_)))))))
 rintro (_ | _) h1
 refine qp J (qg J (qp J (qg J (qp J (qg J (qp J (qg J (qp J (qb ?_)))))))))
 rintro (_ | _) h2
 refine qp J (qn (kq3 J) (kq1 J) (ecF J (eskip (sqn (eseq (er (pq4 J (qn (kq4 J) kn (eblock ?_)))))))))
 refine Few_l c.funs m h0 hm (by unfold Core.sz at hz;omega) 0 (by omega) (by have:=szL_len (f:=CFun.sz) (l:=c.funs) CFun.sz_pos;unfold Core.sz at hz;omega) ?_ ?_
 intro j hk
 refine bqx (sqn (er (qp J (qn (kq1 J) kn (eret (fqr J ?_))))))
 rotate_left
 intro hk
 refine bqr (sqr (fqr J ?_))
 rotate_left
 refine qp J (qn (kq3 J) (kq1 J) (ecT J (er (qp J (qn (kq1 J) kn (eret (sqr (fqr J ?_))))))))
 rotate_left
 refine qp J (zq4 J (qp J (qn (kq3 J) (kq1 J) (ecT J (er (qp J (qn (kq1 J) kn (eret (sqr (fqr J ?_))))))))))
 rotate_left
 all_goals
  refine ⟨congrArg (fun x=>[B x]) ?_,J⟩
  simp_all [fewOk,-List.all_eq_true,-List.all_eq_false] <;> omega
def mxL {α:Type} (f:α → Nat):List α → Nat
 | []=>0
 | a :: as=>max (f a) (mxL f as)
mutual
def nNodes:Node → Nat
 | .mk op _ _ args brs=>if leafOp op then 1 else 1 + nNodess args + bNodess brs
def nNodess:List Node → Nat
 | []=>0
 | a :: as=>nNodes a + nNodess as
def bNodes:Br → Nat
 | .mk _ _ body=>nNodes body
def bNodess:List Br → Nat
 | []=>0
 | a :: as=>bNodes a + bNodess as
end
mutual
def nDepth:Node → Nat
 | .mk op _ _ args brs=>if leafOp op then 1 else max (nDepths args) (bDepths brs) + 1
def nDepths:List Node → Nat
 | []=>0
 | a :: as=>max (nDepth a) (nDepths as)
def bDepth:Br → Nat
 | .mk _ _ body=>nDepth body
def bDepths:List Br → Nat
 | []=>0
 | a :: as=>max (bDepth a) (bDepths as)
end
theorem nNodess_eq (l:List Node):nNodess l=szL nNodes l:=by induction l with
 | nil=>rfl
 | cons a l ih=>simp [nNodess,szL,ih]
theorem bNodes_eq (b:Br):bNodes b=nNodes b.body:=by cases b;rfl
theorem bNodess_eq (l:List Br):bNodess l=szL (fun b=>nNodes b.body) l:=by induction l with
 | nil=>rfl
 | cons a l ih=>simp [bNodess,szL,ih,bNodes_eq]
theorem nNodes_eq (a:Node):nNodes a=if leafOp a.op then 1 else 1 + szL nNodes a.args + szL (fun b=>nNodes b.body) a.brs:=by
 cases a
 simp only [nNodes,nNodess_eq,bNodess_eq]
 rfl
theorem nDepths_eq (l:List Node):nDepths l=mxL nDepth l:=by induction l with
 | nil=>rfl
 | cons a l ih=>simp [nDepths,mxL,ih]
theorem bDepth_eq (b:Br):bDepth b=nDepth b.body:=by cases b;rfl
theorem bDepths_eq (l:List Br):bDepths l=mxL (fun b=>nDepth b.body) l:=by induction l with
 | nil=>rfl
 | cons a l ih=>simp [bDepths,mxL,ih,bDepth_eq]
theorem nDepth_eq (a:Node):nDepth a=if leafOp a.op then 1 else max (mxL nDepth a.args) (mxL (fun b=>nDepth b.body) a.brs) + 1:=by
 cases a
 simp only [nDepth,nDepths_eq,bDepths_eq]
 rfl
variable {a0:Node}
def typedOk (ds:List Decl) (t:Int):Bool:=decide (0 ≤ t) && decide (t ≤ ds.length)
def headOf (ds:List Decl) (fs:List CFun) (op n ty:Int):Option (List Int × List Xtor) :=
 if op=0 ∨ op=5 then (if ty=0 ∧ numOk n=true then some ([],[]) else none)
 else if op=1 then (if ty=0 then some ([],[]) else none)
 else if op=2 ∨ op=6 then (match declAt ds ty with
  | some d=>if d.codata=decide (op=6) ∧ 0 ≤ n then (d.xtors[n.toNat]?).map fun x=>(x.args.map fun a=>sideOf a.co,[]) else none
  | none=>none)
 else if op=3 ∨ op=7 then (if typedOk ds ty=true ∧ numOk n=true then some ([2],[]) else none)
 else if op=4 ∨ op=8 then (match declAt ds ty with
  | some d=>if d.codata=decide (op=4) ∧ n=0 then some ([],d.xtors) else none
  | none=>none)
 else if op=9 then (if typedOk ds ty=true ∧ n=0 then some ([0,1],[]) else none)
 else if op=10 then (if ty=0 ∧ 0 ≤ n ∧ n ≤ 6 then some ([0,0,1],[]) else none)
 else if op=11 then (if ty=0 ∧ n=0 then some ([0,2,2],[]) else none)
 else if op=12 then (if ty=0 ∧ n=0 then some ([0,2],[]) else none)
 else if op=13 then (if ty=0 ∧ 0 ≤ n then (fs[n.toNat]?).map fun f=>(f.params.map fun a=>sideOf a.co,[]) else none)
 else if op=14 then (if ty=0 ∧ n=0 then some ([0],[]) else none)
 else none
def ArgsR (h:Option (List Int × List Xtor)) (w:List Int) (k:Int) (ok:Bool):Prop:=match h with
 | some (want,xs)=>ok=true ∧ w=want.map (· + 1) ∧ k=xs.length
 | none=>ok=false
section
variable {ds:List Decl} {fs:List CFun} {op n ty:Int}
theorem head_var (h:decide (op=0 ∨ op=5)=true):headOf ds fs op n ty=if ty=0 ∧ numOk n=true then some ([],[]) else none:=by
 unfold headOf;rw [if_pos (by simpa using h)]
theorem head_int (h:decide (op=1)=true):headOf ds fs op n ty=if ty=0 then some ([],[]) else none:=by
 have:op=1:=by simpa using h
 subst this;simp [headOf]
theorem head_xtor (h:decide (op=2 ∨ op=6)=true):headOf ds fs op n ty=(match declAt ds ty with
 | some d=>if d.codata=decide (op=6) ∧ 0 ≤ n then (d.xtors[n.toNat]?).map fun x=>(x.args.map fun a=>sideOf a.co,[]) else none
 | none=>none):=by
 have:op=2 ∨ op=6:=by simpa using h
 rcases this with h | h <;> subst h <;> simp [headOf]
theorem head_mu (h:decide (op=3 ∨ op=7)=true):headOf ds fs op n ty=if typedOk ds ty=true ∧ numOk n=true then some ([2],[]) else none:=by
 have:op=3 ∨ op=7:=by simpa using h
 rcases this with h | h <;> subst h <;> simp [headOf]
theorem head_match (h:decide (op=4)=true ∨ decide (op=8)=true):headOf ds fs op n ty=(match declAt ds ty with
 | some d=>if d.codata=decide (op=4) ∧ n=0 then some ([],d.xtors) else none
 | none=>none):=by
 have:op=4 ∨ op=8:=by simpa using h
 rcases this with h | h <;> subst h <;> simp [headOf]
theorem head_cut (h:decide (op=9)=true):headOf ds fs op n ty=if typedOk ds ty=true ∧ n=0 then some ([0,1],[]) else none:=by
 have:op=9:=by simpa using h
 subst this;simp [headOf]
theorem head_prim (h:decide (op=10)=true):headOf ds fs op n ty=if ty=0 ∧ 0 ≤ n ∧ n ≤ 6 then some ([0,0,1],[]) else none:=by
 have:op=10:=by simpa using h
 subst this;simp [headOf]
theorem head_ifz (h:decide (op=11)=true):headOf ds fs op n ty=if ty=0 ∧ n=0 then some ([0,2,2],[]) else none:=by
 have:op=11:=by simpa using h
 subst this;simp [headOf]
theorem head_emit (h:decide (op=12)=true):headOf ds fs op n ty=if ty=0 ∧ n=0 then some ([0,2],[]) else none:=by
 have:op=12:=by simpa using h
 subst this;simp [headOf]
theorem head_call (h:decide (op=13)=true):headOf ds fs op n ty=if ty=0 ∧ 0 ≤ n then (fs[n.toNat]?).map fun f=>(f.params.map fun a=>sideOf a.co,[]) else none:=by
 have:op=13:=by simpa using h
 subst this;simp [headOf]
theorem head_done (h:decide (op=14)=true):headOf ds fs op n ty=if ty=0 ∧ n=0 then some ([0],[]) else none:=by
 have:op=14:=by simpa using h
 subst this;simp [headOf]
theorem head_no (h0:decide (op=0 ∨ op=5)=false) (h1:decide (op=1)=false) (h2:decide (op=2 ∨ op=6)=false) (h3:decide (op=3 ∨ op=7)=false) (h4:decide (op=4)=false) (h8:decide (op=8)=false) (h9:decide (op=9)=false)
 (h10:decide (op=10)=false) (h11:decide (op=11)=false) (h12:decide (op=12)=false) (h13:decide (op=13)=false) (h14:decide (op=14)=false):headOf ds fs op n ty=none:=by
 simp only [decide_eq_false_iff_not] at *
 unfold headOf
 rw [if_neg h0,if_neg h1,if_neg h2,if_neg h3,if_neg (by omega),if_neg h9,if_neg h10,if_neg h11,if_neg h12,if_neg h13,if_neg h14]
end
def cntM (c:Int → Option Int):Value → Option AV
 | .int .i64 n=>(c n).map I
 | _=>none
theorem cntM_set (c:Int → Option Int) (v y:Int):mset (cntM c) (.int .i64 v) (some (I y))=cntM (fun n=>if n=v then some y else c n):=by
 funext k
 unfold mset
 by_cases h:k=.int .i64 v
 ·subst h;simp [cntM]
 rw [if_neg h]
 cases k <;> try rfl
 rename_i kd n
 cases kd <;> try rfl
 have hne:n ≠ v:=fun e=>h (by rw [e])
 simp [cntM,hne]
def addK (X:Int → Int) (v k:Int):Int → Int:=fun n=>if n=v then X n + k else X n
def CM (i:Nat) (X:Int → Int) (S:Sg):Prop:=∃ c,S.ob i=some (.map (.int .i64) (cntM c)) ∧ ∀ n,(c n).getD 0=X n
theorem CM.set {i:Nat} {X:Int → Int} {S:Sg} {c:Int → Option Int} (hc:∀ n,(c n).getD 0=X n) (v k:Int):CM i (addK X v k) (S.set i (.map (.int .i64) (mset (cntM c) (.int .i64 v) (some (I ((c v).getD 0 + k)))))):=by
 refine ⟨_,by rw [set_ob,cntM_set],fun n=>?_⟩
 unfold addK
 by_cases h:n=v
 ·subst h;simp [hc]
 simp [h,hc]
theorem CM.ne {i j:Nat} {X:Int → Int} {S:Sg} {o:AObj} (h:CM i X S) (hij:i ≠ j):CM i X (S.set j o):=by
 obtain ⟨c,h1,h2⟩:=h
 exact ⟨c,by rw [set_ne hij];exact h1,h2⟩
def coAt (l:List Bool) (i:Nat):Bool:=(l[i]?).getD false
theorem coAt_drop (l:List Bool) (i:Nat):(l.drop i).headD false=coAt l i:=by
 unfold coAt
 rw [List.headD_eq_head?_getD,List.head?_drop]
def Bd (X:Int → Int) (k:Int):Prop:=∀ n,-k ≤ X n ∧ X n ≤ k
theorem Bd.add {X:Int → Int} {b v k:Int} (h:Bd X b) (hk:-1 ≤ k ∧ k ≤ 1):Bd (addK X v k) (b + 1):=by
 intro n
 have:=h n
 unfold addK
 split <;> omega
theorem SameBools_l (lb la:List Bool) (hl:la.length=lb.length) (i:Nat) (hi:i ≤ la.length) (hs:la.length ≤ 2 ^ 40) {n:Nat} {v:Nat → Bool} {D:List (Nat × List AV)} {S:Sg} {Q:Ex → Fr → Prop}
 (hX:∀ j,la.drop i=lb.drop i → Q (.exit 0) ⟨upd (upd (upd (upd (upd ((fun _=>none)) 14 (some (.val (B false)))) 13 (some (.val (I j)))) 12 (some (.val (I (la.map B).length)))) 1 (some (.val (SL 1 (lb.map B))))) 0 (some (.val (.slice .none 1 (la.map B)))),(fun _=>none),n,v,D,S⟩) (hR:la.drop i ≠ lb.drop i → Q .ret ⟨upd ((fun _=>none)) 4 (some (.val (B false))),(fun _=>none),n,v,D,S⟩):EX (callL p) (.loop F81_l1) ⟨upd (upd (upd (upd ((fun _=>none)) 13 (some (.val (I i)))) 12 (some (.val (I (la.map B).length)))) 1 (some (.val (SL 1 (lb.map B))))) 0 (some (.val (.slice .none 1 (la.map B)))),(fun _=>none),n,v,D,S⟩ Q:=by
 refine eloop (er (qp J (qb ?_)))
 rintro (_ | _) h1
 ·refine qn (kq5 J) kn (eseq (ecF J (eexit (sqx ?_))))
  exact hX _ (by rw [List.drop_eq_nil_of_le (by simp at h1 ⊢;omega),List.drop_eq_nil_of_le (by simp at h1 ⊢;omega)])
 refine qn (kq5 J) kn (eseq (ecT J (eskip (sqn (eseq (eblock (er (pq2 J (qn (kq5 J) kn (er (pq2 J ?_)))))))))))
 have hlt:i < la.length:=by simpa using h1
 obtain ⟨a,ha⟩:=get_of_lt hlt
 have hd:=drop_cons ha
 refine hia (y:=B a) rfl rfl (by omega) (by simp [ha]) rfl (qp rfl (qp rfl (qp rfl ?_)))
 obtain ⟨y,hy⟩:=get_of_lt (l:=lb) (i:=i) (by omega)
 have hd2:=drop_cons hy
 refine hia (y:=B y) rfl rfl (by omega) (by simp [hy]) rfl (qp rfl (qp rfl (qb ?_)))
 rintro (_ | _) h2
 ·refine qn (kq5 J) kn (ecF J (eskip (bqn (sqn (ereg (hadd J J (i64w (by omega)) (qp J (qk (kq4 J) kn ?_))))))))
  exact SameBools_l lb la hl (i + 1) (by omega) hs (fun j h=>hX j (by rw [hd,hd2,h,show a=y from by simpa using h2])) (fun h=>hR (by rw [hd,hd2];intro e;exact h (List.cons.inj e).2))
 refine qn (kq5 J) kn (ecT J (er (qp J (qn (kq1 J) kn (eret (bqr (sqr ?_)))))))
 exact hR (by rw [hd,hd2];intro e;have e1:=(List.cons.inj e).1;revert h2;simp [e1])
termination_by la.length - i
decreasing_by all_goals omega
theorem SameBools_c (s:Sg) (a b:List Bool) (hz:a.length ≤ 2 ^ 40):HC p N81_ [SL 1 (a.map B),SL 1 (b.map B)] s (fun r s'=>r=[B (decide (a=b))] ∧ s'=s):=by
 refine hcf J f81_ J ?_
 simp only [chainOf]
 refine er (qp J (qn (kq2 J) kn (eseq (er (pq5 J (qb ?_))))))
 rintro (_ | _) h1
 refine qn (kq3 J) kn (ecF J (eskip (sqn (eseq (er (pq3 J (qn (kq4 J) kn (eblock ?_))))))))
 refine SameBools_l b a (by simp at h1;omega) 0 (by omega) hz ?_ ?_
 intro j hj
 refine bqx (sqn (er (qp J (qn (kq1 J) kn (eret (fqr J ?_))))))
 rotate_left
 intro hj
 refine bqr (sqr (fqr J ?_))
 rotate_left
 refine qn (kq3 J) kn (ecT J (er (qp J (qn (kq1 J) kn (eret (sqr (fqr J ?_)))))))
 rotate_left
 all_goals
  refine ⟨?_,J⟩
  first
  | (rw [decide_eq_true (show a=b from hj)];rfl)
  | (rw [decide_eq_false (show ¬ a=b from hj)];rfl)
  | (rw [decide_eq_false (show ¬ a=b from by intro e;subst e;simp at h1)];rfl)
theorem SameInts_l (lb la:List Int) (hl:la.length=lb.length) (i:Nat) (hi:i ≤ la.length) (hs:la.length ≤ 2 ^ 40) {n:Nat} {v:Nat → Bool} {D:List (Nat × List AV)} {S:Sg} {Q:Ex → Fr → Prop}
 (hX:∀ j,la.drop i=lb.drop i → Q (.exit 0) ⟨upd (upd (upd (upd (upd ((fun _=>none)) 14 (some (.val (B false)))) 13 (some (.val (I j)))) 12 (some (.val (I (la.map I).length)))) 1 (some (.val (SL 1 (lb.map I))))) 0 (some (.val (.slice .none 1 (la.map I)))),(fun _=>none),n,v,D,S⟩) (hR:la.drop i ≠ lb.drop i → Q .ret ⟨upd ((fun _=>none)) 4 (some (.val (B false))),(fun _=>none),n,v,D,S⟩):EX (callL p) (.loop F40_l1) ⟨upd (upd (upd (upd ((fun _=>none)) 13 (some (.val (I i)))) 12 (some (.val (I (la.map I).length)))) 1 (some (.val (SL 1 (lb.map I))))) 0 (some (.val (.slice .none 1 (la.map I)))),(fun _=>none),n,v,D,S⟩ Q:=by
 refine eloop (er (qp J (qb ?_)))
 rintro (_ | _) h1
 ·refine qn (kq5 J) kn (eseq (ecF J (eexit (sqx ?_))))
  exact hX _ (by rw [List.drop_eq_nil_of_le (by simp at h1 ⊢;omega),List.drop_eq_nil_of_le (by simp at h1 ⊢;omega)])
 refine qn (kq5 J) kn (eseq (ecT J (eskip (sqn (eseq (eblock (er (pq2 J (qn (kq5 J) kn (er (pq2 J ?_)))))))))))
 have hlt:i < la.length:=by simpa using h1
 obtain ⟨a,ha⟩:=get_of_lt hlt
 have hd:=drop_cons ha
 refine hia (y:=I a) rfl rfl (by omega) (by simp [ha]) rfl (qp rfl (qp rfl (qp rfl ?_)))
 obtain ⟨y,hy⟩:=get_of_lt (l:=lb) (i:=i) (by omega)
 have hd2:=drop_cons hy
 refine hia (y:=I y) rfl rfl (by omega) (by simp [hy]) rfl (qp rfl (qp rfl (qb ?_)))
 rintro (_ | _) h2
 ·refine qn (kq5 J) kn (ecF J (eskip (bqn (sqn (ereg (hadd J J (i64w (by omega)) (qp J (qk (kq4 J) kn ?_))))))))
  exact SameInts_l lb la hl (i + 1) (by omega) hs (fun j h=>hX j (by rw [hd,hd2,h,show a=y from by simpa using h2])) (fun h=>hR (by rw [hd,hd2];intro e;exact h (List.cons.inj e).2))
 refine qn (kq5 J) kn (ecT J (er (qp J (qn (kq1 J) kn (eret (bqr (sqr ?_)))))))
 exact hR (by rw [hd,hd2];intro e;have e1:=(List.cons.inj e).1;revert h2;simp [e1])
termination_by la.length - i
decreasing_by all_goals omega
theorem SameInts_c (s:Sg) (a b:List Int) (hz:a.length ≤ 2 ^ 40):HC p N40_ [SL 1 (a.map I),SL 1 (b.map I)] s (fun r s'=>r=[B (decide (a=b))] ∧ s'=s):=by
 refine hcf J f40_ J ?_
 simp only [chainOf]
 refine er (qp J (qn (kq2 J) kn (eseq (er (pq5 J (qb ?_))))))
 rintro (_ | _) h1
 refine qn (kq3 J) kn (ecF J (eskip (sqn (eseq (er (pq3 J (qn (kq4 J) kn (eblock ?_))))))))
 refine SameInts_l b a (by simp at h1;omega) 0 (by omega) hz ?_ ?_
 intro j hj
 refine bqx (sqn (er (qp J (qn (kq1 J) kn (eret (fqr J ?_))))))
 rotate_left
 intro hj
 refine bqr (sqr (fqr J ?_))
 rotate_left
 refine qn (kq3 J) kn (ecT J (er (qp J (qn (kq1 J) kn (eret (sqr (fqr J ?_)))))))
 rotate_left
 all_goals
  refine ⟨?_,J⟩
  first
  | (rw [decide_eq_true (show a=b from hj)];rfl)
  | (rw [decide_eq_false (show ¬ a=b from hj)];rfl)
  | (rw [decide_eq_false (show ¬ a=b from by intro e;subst e;simp at h1)];rfl)
def distinctOk:List (Int × Bool) → List (Int × Bool) → Bool
 | _,[]=>true
 | seen,p :: ps=>numOk p.1 && !(seen.any fun q=>decide (q=p)) && distinctOk (seen ++ [p]) ps
theorem zip_at {vars:List Int} {cos:List Bool} {i:Nat} {x:Int} {c:Bool} (h:vars[i]?=some x) (k:cos[i]?=some c):(vars.zip cos)[i]?=some (x,c):=by simp [List.getElem?_zip_eq_some,h,k]
def addV (X:Int → Bool) (v:Int):Int → Bool:=fun n=>decide (n=v) || X n
def addsV (w:Bool) (X:Int → Bool):List Int → List Bool → (Int → Bool)
 | [],_=>X
 | v :: vs,cs=>addsV w (if cs.headD false=w then addV X v else X) vs cs.tail
mutual
def vN (ds:List Decl) (fs:List CFun):Node → (Int → Bool) → (Int → Bool) → Bool
 | .mk op n ty args brs,X,A=>match headOf ds fs op n ty with
   | none=>false
   | some (want,xs)=>(if op=0 then X n else if op=5 then A n else true) && vNs ds fs args want (if op=7 then addV X n else X) (if op=3 then addV A n else A) && vBs ds fs brs xs X A
def vNs (ds:List Decl) (fs:List CFun):List Node → List Int → (Int → Bool) → (Int → Bool) → Bool
 | [],[],_,_=>true
 | a :: as,w :: ws,X,A=>decide (sortOf a.op=w) && vN ds fs a X A && vNs ds fs as ws X A
 | _,_,_,_=>false
def vB (ds:List Decl) (fs:List CFun):Br → Xtor → (Int → Bool) → (Int → Bool) → Bool
 | .mk vars co body,x,X,A=>decide (vars.length=x.args.length) && decide (co=x.args.map fun a=>a.co) && distinctOk [] (vars.zip co) && decide (sortOf body.op=2) &&
   vN ds fs body (addsV false X vars co) (addsV true A vars co)
def vBs (ds:List Decl) (fs:List CFun):List Br → List Xtor → (Int → Bool) → (Int → Bool) → Bool
 | [],[],_,_=>true
 | b :: bs,x :: xs,X,A=>vB ds fs b x X A && vBs ds fs bs xs X A
 | _,_,_,_=>false
end
theorem vN_eq (ds:List Decl) (fs:List CFun) (a:Node) (X A:Int → Bool):vN ds fs a X A=match headOf ds fs a.op a.n a.ty with
 | none=>false
 | some (want,xs)=>(if a.op=0 then X a.n else if a.op=5 then A a.n else true) && vNs ds fs a.args want (if a.op=7 then addV X a.n else X) (if a.op=3 then addV A a.n else A) && vBs ds fs a.brs xs X A:=by
 cases a
 rw [vN]
 rfl
theorem vB_eq (ds:List Decl) (fs:List CFun) (b:Br) (x:Xtor) (X A:Int → Bool):vB ds fs b x X A=(decide (b.vars.length=x.args.length) && decide (b.co=x.args.map fun a=>a.co) && distinctOk [] (b.vars.zip b.co) && decide (sortOf b.body.op=2) &&
 vN ds fs b.body (addsV false X b.vars b.co) (addsV true A b.vars b.co)):=by
 cases b
 rw [vB]
 rfl
def Bn (X:Int → Int) (k:Int):Prop:=∀ n,0 ≤ X n ∧ X n ≤ k
theorem Bn.add {X:Int → Int} {b v:Int} (h:Bn X b):Bn (addK X v 1) (b + 1):=by
 intro n
 have:=h n
 unfold addK
 split <;> omega
def pos (X:Int → Int):Int → Bool:=fun n=>decide (0 < X n)
theorem pos_add {X:Int → Int} {k v:Int} (h:Bn X k):pos (addK X v 1)=addV (pos X) v:=by
 funext n
 have:=h n
 unfold pos addV addK
 by_cases hn:n=v
 ·subst hn;simp;omega
 simp [hn]
abbrev IXA (ix ia:Nat):Nat → Prop:=fun j=>j=ix ∨ j=ia
end Go.Sim.Kd
namespace Go.Sim.Kd
open Go Go.Sim
structure CoreSz (c:Core):Prop where
 dl:c.decls.length ≤ 2 ^ 40
 xa:∀ d ∈ c.decls,∀ x ∈ d.xtors,x.args.length ≤ 2 ^ 40
 ga:∀ g ∈ c.funs,g.params.length ≤ 2 ^ 40
theorem ArgsR.some {h:Option (List Int × List Xtor)} {w:List Int} {k:Int} {ok:Bool} (a:ArgsR h w k ok) (e:ok=true):∃ want xs,h=some (want,xs) ∧ w=want.map (· + 1) ∧ k=xs.length:=by
 unfold ArgsR at a
 split at a
 ·rename_i want xs;exact ⟨want,xs,rfl,a.2.1,a.2.2⟩
 rw [a] at e;cases e
theorem ArgsR.none {h:Option (List Int × List Xtor)} {w:List Int} {k:Int} {ok:Bool} (a:ArgsR h w k ok) (e:ok=false):h=none:=by
 unfold ArgsR at a
 split at a
 ·rw [a.1] at e;cases e
 rfl
theorem vNs_len {ds:List Decl} {fs:List CFun}:∀ {as:List Node} {ws:List Int} {X A:Int → Bool},vNs ds fs as ws X A=true → as.length=ws.length
 | [],[],_,_,_=>rfl
 | [],_ :: _,_,_,h=>by simp [vNs] at h
 | _ :: _,[],_,_,h=>by simp [vNs] at h
 | a :: as,w :: ws,X,A,h=>by
   simp only [vNs,Bae] at h
   simp [vNs_len h.2]
theorem vBs_len {ds:List Decl} {fs:List CFun}:∀ {as:List Br} {ws:List Xtor} {X A:Int → Bool},vBs ds fs as ws X A=true → as.length=ws.length
 | [],[],_,_,_=>rfl
 | [],_ :: _,_,_,h=>by simp [vBs] at h
 | _ :: _,[],_,_,h=>by simp [vBs] at h
 | a :: as,w :: ws,X,A,h=>by
   simp only [vBs,Bae] at h
   simp [vBs_len h.2]
def addAll (X:Int → Int):List Int → (Int → Int)
 | []=>X
 | v :: vs=>addAll (addK X v 1) vs
theorem addAll_pos:∀ (l:List Int) {X:Int → Int} {k:Int},Bn X k → ∀ n,pos (addAll X l) n=(pos X n || l.any fun v=>decide (n=v))
 | [],X,k,h,n=>by simp [addAll]
 | v :: vs,X,k,h,n=>by
   rw [addAll,addAll_pos vs h.add n,pos_add h]
   simp only [addV,List.any_cons]
   cases decide (n=v) <;> simp
def parOf (co:Bool) (l:List (Arg × Int)):List Int:=(l.filter fun q=>q.1.co == co).map (·.2)
def parOk (N i:Nat) (a:Arg):Bool:=decide (0 ≤ a.ty) && decide (a.ty ≤ N) && !(decide (i=0) && (a.co || decide (a.ty ≠ 0)))
def funOk (N i:Nat) (names:List ByteArray) (g:CFun):Bool:=nameOk g.name && decide (g.params.length ≤ 6) && decide (g.vars.length=g.params.length) && distinctOk [] (g.vars.zip (g.params.map fun (q:Arg)=>q.co)) &&
 !(names.any fun y=>decide (g.name=y)) && g.params.all (parOk N i)
def funsOk (N:Nat):Nat → List ByteArray → List CFun → Bool
 | _,_,[]=>true
 | i,names,g :: gs=>funOk N i names g && funsOk N (i + 1) (names ++ [g.name]) gs
def headsOk (c:Core):Bool:=decide (1 ≤ c.funs.length) && decide (c.funs.length ≤ 12) && funsOk c.decls.length 0 [] c.funs
def bodyScope (co:Bool) (g:CFun):Int → Bool:=pos (addAll (fun _=>0) (parOf co (g.params.zip g.vars)))
def bodyOk (c:Core) (g:CFun):Bool:=decide ((nAll g.body:Int) ≤ 30000) && decide (nDepth g.body ≤ 4000) && decide (sortOf g.body.op=2) && vN c.decls c.funs g.body (bodyScope false g) (bodyScope true g)
def coreOk (c:Core):Bool:=declsValid c.decls && headsOk c && c.funs.all (bodyOk c) && decide (szL (fun g=>nNodes g.body) c.funs ≤ 30000)
theorem Bn_zero:Bn (fun _=>0) 0:=fun _=>⟨Int.le_refl 0,Int.le_refl 0⟩
theorem funsOk_mem {N:Nat}:∀ {gs:List CFun} {i:Nat} {names:List ByteArray},funsOk N i names gs=true → ∀ g ∈ gs,g.params.length ≤ 6 ∧ g.vars.length=g.params.length
 | [],_,_,_,g,hg=>by cases hg
 | x :: gs,i,names,h,g,hg=>by
   simp only [funsOk,funOk,Bae,Dte] at h
   cases hg with
   | head=>exact ⟨h.1.1.1.1.1.2,h.1.1.1.1.2⟩
   | tail _ hg=>exact funsOk_mem h.2 g hg
theorem headsOk_mem {c:Core} (h:headsOk c=true):∀ g ∈ c.funs,g.params.length ≤ 6 ∧ g.vars.length=g.params.length:=by
 simp only [headsOk,Bae] at h
 exact funsOk_mem h.2
def keyP (q:Int × Bool):Int × Int:=(sideOf q.2,q.1)
theorem keyP_inj {a b:Int × Bool} (h:keyP a=keyP b):a=b:=by
 obtain ⟨x,c⟩:=a
 obtain ⟨y,d⟩:=b
 simp only [keyP,Pie] at h
 obtain ⟨h1,rfl⟩:=h
 cases c <;> cases d <;> simp_all [sideOf]
theorem keyP_any (l:List (Int × Bool)) (x:Int × Bool):((l.map keyP).any fun y=>decide (y=keyP x))=l.any fun y=>decide (y=x):=by
 rw [List.any_map]
 congr 1
 funext y
 rw [Bool.eq_iff_iff]
 simp only [Function.comp_apply,Dte]
 exact ⟨keyP_inj,fun e=>by rw [e]⟩
theorem binds_l {pm:Nat} (vars:List Int) (cos:List Bool) (hl:vars.length=cos.length) (i:Nat) (hi:i ≤ vars.length) (hs:vars.length ≤ 2 ^ 40) {n:Nat} {v:Nat → Bool} {D:List (Nat × List AV)} {S:Sg} {Q:Ex → Fr → Prop}
 (hM:S.ob pm=some (.map (.int2 .i64) (setP (((vars.zip cos).take i).map keyP)))) (hX:∀ j S',distinctOk ((vars.zip cos).take i) ((vars.zip cos).drop i)=true → Chg (·=pm) S S' → Q (.exit 0) ⟨upd (upd (upd (upd (upd (upd ((fun _=>none)) 18 (some (.val (B false)))) 17 (some (.val (I j)))) 16 (some (.val (I (vars.map I).length)))) 15 (some (.val (.slice .none 1 (vars.map I))))) 5 (some (.val (.map pm)))) 1 (some (.val (bools cos))),(fun _=>none),n,v,D,S'⟩)
 (hR:distinctOk ((vars.zip cos).take i) ((vars.zip cos).drop i)=false → ∀ S',Chg (·=pm) S S' → Q .ret ⟨upd ((fun _=>none)) 4 (some (.val (B false))),(fun _=>none),n,v,D,S'⟩):EX (callL p) (.loop F58_l1) ⟨upd (upd (upd (upd (upd ((fun _=>none)) 17 (some (.val (I i)))) 16 (some (.val (I (vars.map I).length)))) 15 (some (.val (.slice .none 1 (vars.map I))))) 5 (some (.val (.map pm)))) 1 (some (.val (bools cos))),(fun _=>none),n,v,D,S⟩ Q:=by
 refine eloop (er (qp J (qb ?_)))
 rintro (_ | _) h1
 refine qn (kq6 J) kn (eseq (ecF J (eexit (sqx ?_))))
 exact hX _ _ (by rw [List.drop_eq_nil_of_le (by simp at h1 ⊢;omega)];rfl) (Chg.refl _)
 refine qn (kq6 J) kn (eseq (ecT J (eskip (sqn (eseq (eblock (er (qp J ?_))))))))
 have hlt:i < vars.length:=by simpa using h1
 obtain ⟨a,ha⟩:=get_of_lt hlt
 have hd:=drop_cons ha
 refine hia (y:=I a) rfl rfl (by omega) (by simp [ha]) rfl (qp rfl (qp rfl (qp rfl (qk (kc rfl (kc rfl (kc rfl (kc rfl (kc rfl (kc rfl (kc rfl kn))))))) kn (sqn (eseq (ereg (qp rfl (qp rfl ?_)))))))))
 obtain ⟨c,hc⟩:=get_of_lt (l:=cos) (i:=i) (by omega)
 have hz:=drop_cons (zip_at ha hc)
 refine hia (y:=B c) rfl rfl (by omega) (by simp [hc]) rfl (qp rfl (hcall rfl rfl rfl (cside_c _ c) ?_))
 rintro _ _ ⟨rfl,hq⟩
 obtain rfl:=hq.symm
 refine qp J (hbuild J J (lq2 J) (hal (dq14 J) (hstl J J J J (Nlb J) (lq2 J) (qn (kq7 J) (kq1 J) (eseq (er (qp J (hcall J J J (number_c _ a) ?_))))))))
 rintro _ _ ⟨rfl,hq⟩
 obtain rfl:=hq.symm
 refine qb ?_
 rintro (_ | _) h2
 refine pq2 J (zq3 J (qp J (qn (kq7 J) (kq1 J) (ecT J (er (qp J (qn (kq1 J) kn (eret (sqr (bqr (sqr ?_)))))))))))
 rotate_left
 refine qp rfl (qp rfl (qg rfl (qp rfl (qg rfl (hlda rfl rfl (lc rfl (lc rfl (ln rfl))) (qg rfl (hlk (key:=pairV (keyP (a,c))) rfl rfl rfl hM ?_)))))))
 rw [setP_get,keyP_any]
 refine qb ?_
 rintro (_ | _) h3
 refine qp rfl (qk (kc rfl (kc rfl (kc rfl (kc rfl (kc rfl (kc rfl (kc rfl kn))))))) (kc rfl kn) (sqn (ecF rfl (eskip (sqn (ereg (qp rfl (hlda rfl rfl (lc rfl (lc rfl (ln rfl))) (hmu (key:=pairV (keyP (a,c))) rfl rfl rfl rfl hM ?_)))))))))
 rw [show (AV.lit (.bool true)).er=B true from rfl,setP_add]
 refine qk (kq5 J) kn (bqn (sqn (ereg (hadd J J (i64w (by omega)) (qp J (qk (kq5 J) kn ?_))))))
 have ht:(vars.zip cos).take (i + 1)=(vars.zip cos).take i ++ [(a,c)]:=by simp [List.take_add_one,zip_at ha hc]
 have hnum:numOk a=true:=by assumption
 have hn:(((vars.zip cos).take i).any fun q=>decide (q=(a,c)))=false:=by assumption
 have hy:distinctOk ((vars.zip cos).take i) ((vars.zip cos).drop i)=distinctOk ((vars.zip cos).take (i + 1)) ((vars.zip cos).drop (i + 1)):=by
  rw [hz,ht]
  simp only [distinctOk,hnum,hn,Bta,Bool.not_false]
 have hcc:Chg (·=pm) S (S.set pm (.map (.int2 .i64) (setP (((vars.zip cos).take i).map keyP ++ [keyP (a,c)])))):=(Chg.refl S).set fun _=>rfl
 exact binds_l vars cos hl (i + 1) (by omega) hs (by rw [ht,List.map_append];exact set_ob) (fun j S' h cc=>hX j S' (hy.trans h) (hcc.trans cc)) (fun h S' cc=>hR (hy.trans h) S' (hcc.trans cc))
 refine qp J (qn (kq7 J) (kq1 J) (ecT J (er (qp J (qn (kq1 J) kn (eret (sqr (bqr (sqr ?_)))))))))
 rotate_left
 all_goals
  first
  | (have hnum:numOk a=false:=by assumption
     exact hR (by rw [hz];simp only [distinctOk,hnum,Bfa]) _ (Chg.refl _))
  | (have hn:(((vars.zip cos).take i).any fun q=>decide (q=(a,c)))=true:=by assumption
     exact hR (by rw [hz];simp only [distinctOk,hn,Bool.not_true,Bool.and_false,Bfa]) _ (Chg.refl _))
termination_by vars.length - i
decreasing_by all_goals omega
theorem binds_c (s:Sg) (vars:List Int) (cos:List Bool) (hzz:vars.length ≤ 2 ^ 40):HC p N58_ [ints vars,bools cos] s (fun r s'=>r=[B (decide (vars.length=cos.length) && distinctOk [] (vars.zip cos))] ∧ Ext s s'):=by
 refine hcf J f58_ J ?_
 simp only [chainOf]
 refine er (qp J (qn (kq2 J) kn (eseq (er (pq5 J (qb ?_))))))
 rintro (_ | _) h1
 refine qn (kq3 J) kn (ecF J (eskip (sqn (er (hmkm (qp J (qn (kq3 J) kn (eseq (er (pq3 J (qn (kq5 J) kn (eblock ?_))))))))))))
 refine binds_l vars cos (by simp at h1;omega) 0 (by omega) hzz (by rw [List.take_zero,List.map_nil,setP_nil];exact new_ob) ?_ ?_
 intro j S1 hj hc
 refine bqx (sqn (er (qp J (qn (kq1 J) kn (eret (fqr J ?_))))))
 rotate_left
 intro hj S1 hc
 refine bqr (sqr (fqr J ?_))
 rotate_left
 refine qn (kq3 J) kn (ecT J (er (qp J (qn (kq1 J) kn (eret (sqr (fqr J ?_)))))))
 rotate_left
 all_goals
  first
  | (have e:decide (vars.length=cos.length)=false:=by simp at h1 ⊢;omega
     exact ⟨by rw [e];rfl,Ext.refl _⟩)
  | (have e:decide (vars.length=cos.length)=true:=by simp at h1 ⊢;omega
     have hx:=hj
     simp only [List.take_zero,List.drop_zero] at hx
     exact ⟨by rw [e,hx];rfl,(((Chg.refl s).new).trans (hc.mono fun i _ h=>by rw [h];exact Nat.le_refl _)).ext (X:=fun i=>s.nx ≤ i) fun i h=>h⟩)
def setM (X:Int → Bool):Value → Option AV
 | .int .i64 n=>if X n=true then some (B true) else none
 | _=>none
theorem setM_add (X:Int → Bool) (v:Int):mset (setM X) (.int .i64 v) (some (B true))=setM (addV X v):=by
 funext k
 unfold mset
 by_cases h:k=.int .i64 v
 ·subst h;simp [setM,addV]
 rw [if_neg h]
 cases k <;> try rfl
 rename_i kd n
 cases kd <;> try rfl
 have hne:n ≠ v:=fun e=>h (by rw [e])
 simp [setM,addV,hne]
theorem setM_get (X:Int → Bool) (v:Int):(setM X (.int .i64 v)).getD (B false)=B (X v):=by
 simp only [setM]
 cases X v <;> rfl
structure PS (i0 i1:Nat) (X A:Int → Bool) (S:Sg):Prop where
 h0:S.ob i0=some (.map (.int .i64) (setM X))
 h1:S.ob i1=some (.map (.int .i64) (setM A))
 l0:i0 < S.nx
 l1:i1 < S.nx
 ne:i0 ≠ i1
theorem PS.add0 {i0 i1:Nat} {X A:Int → Bool} {S:Sg} (h:PS i0 i1 X A S) (v:Int):PS i0 i1 (addV X v) A (S.set i0 (.map (.int .i64) (setM (addV X v)))) :=
 ⟨set_ob,by rw [set_ne (Ne.symm h.ne)];exact h.h1,h.l0,h.l1,h.ne⟩
theorem PS.add1 {i0 i1:Nat} {X A:Int → Bool} {S:Sg} (h:PS i0 i1 X A S) (v:Int):PS i0 i1 X (addV A v) (S.set i1 (.map (.int .i64) (setM (addV A v)))) :=
 ⟨by rw [set_ne h.ne];exact h.h0,set_ob,h.l0,h.l1,h.ne⟩
theorem PS.keep {i0 i1:Nat} {X A:Int → Bool} {S S':Sg} {Y:Nat → Prop} (h:PS i0 i1 X A S) (k:Chg Y S S') (h0:¬ Y i0) (h1:¬ Y i1):PS i0 i1 X A S' :=
 ⟨(k.ob i0 h.l0 h0).trans h.h0,(k.ob i1 h.l1 h1).trans h.h1,Nat.lt_of_lt_of_le h.l0 k.nx,Nat.lt_of_lt_of_le h.l1 k.nx,h.ne⟩
def setL (X:Int → Bool):List Int → (Int → Bool)
 | []=>X
 | v :: vs=>setL (addV X v) vs
theorem cNS_l1 {i0 i1:Nat} (l:List Int) (X A:Int → Bool) (i:Nat) (hi:i ≤ l.length) (hs:l.length ≤ 2 ^ 40) {x1:AV} {n:Nat} {v:Nat → Bool} {D:List (Nat × List AV)} {S:Sg} {Q:Ex → Fr → Prop}
 (hS:PS i0 i1 X A S) (hX:∀ j S',PS i0 i1 (setL X (l.drop i)) A S' → Chg (IXA i0 i1) S S' → Q (.exit 0) ⟨upd (upd (upd (upd (upd (upd (upd ((fun _=>none)) 16 (some (.val (B false)))) 15 (some (.val (I j)))) 14 (some (.val (I (l.map I).length)))) 13 (some (.val (.slice .none 1 (l.map I))))) 5 (some (.loc 5 0))) 4 (some (.loc 4 0))) 1 (some (.val x1)),upd (upd ((fun _=>none)) 5 (some ([.map i0,.map i1]))) 4 (some ([.lit (.map none),.lit (.map none)])),n,v,D,S'⟩):EX (callL p) (.loop F59_l1) ⟨upd (upd (upd (upd (upd (upd ((fun _=>none)) 15 (some (.val (I i)))) 14 (some (.val (I (l.map I).length)))) 13 (some (.val (.slice .none 1 (l.map I))))) 5 (some (.loc 5 0))) 4 (some (.loc 4 0))) 1 (some (.val x1)),upd (upd ((fun _=>none)) 5 (some ([.map i0,.map i1]))) 4 (some ([.lit (.map none),.lit (.map none)])),n,v,D,S⟩ Q:=by
 refine eloop (er (qp J (qb ?_)))
 rintro (_ | _) h1
 ·refine qn (kq7 J) (kq2 J) (eseq (ecF J (eexit (sqx ?_))))
  exact hX _ _ (by rw [List.drop_eq_nil_of_le (by simp at h1 ⊢;omega)];exact hS) (Chg.refl _)
 refine qn (kq7 J) (kq2 J) (eseq (ecT J (eskip (sqn (eseq (eblock (er ?_)))))))
 have hlt:i < l.length:=by simpa using h1
 obtain ⟨a,ha⟩:=get_of_lt hlt
 have hd:=drop_cons ha
 refine hia (y:=I a) rfl rfl (by omega) (by simp [ha]) rfl (qp rfl (qp rfl (qk (kc rfl (kc rfl (kc rfl (kc rfl (kc rfl (kc rfl (kc rfl kn))))))) (kc rfl (kc rfl kn)) (sqn (ereg (qp rfl (qp rfl (qp rfl (hmu rfl rfl rfl rfl hS.h0 ?_)))))))))
 rw [show (AV.lit (.bool true)).er=B true from rfl,setM_add]
 refine qk (kq6 J) (kq2 J) (bqn (sqn (ereg (hadd J J (i64w (by omega)) (qp J (qk (kq6 J) (kq2 J) ?_))))))
 have hS1:=hS.add0 a
 have hc1:Chg (IXA i0 i1) S _:=(Chg.refl S).set (i:=i0) (o:=.map (.int .i64) (setM (addV X a))) fun _=>.inl rfl
 exact cNS_l1 l _ A (i + 1) (by omega) hs hS1 (fun j S2 h c=>hX j S2 (by rw [hd];exact h) (hc1.trans c))
termination_by l.length - i
decreasing_by all_goals omega
theorem cNS_l2 {i0 i1:Nat} (l:List Int) (X A:Int → Bool) (i:Nat) (hi:i ≤ l.length) (hs:l.length ≤ 2 ^ 40) {n:Nat} {v:Nat → Bool} {D:List (Nat × List AV)} {S:Sg} {Q:Ex → Fr → Prop}
 (hS:PS i0 i1 X A S) (hX:∀ j S',PS i0 i1 X (setL A (l.drop i)) S' → Chg (IXA i0 i1) S S' → Q (.exit 2) ⟨upd (upd (upd (upd (upd (upd ((fun _=>none)) 26 (some (.val (B false)))) 25 (some (.val (I j)))) 24 (some (.val (I (l.map I).length)))) 23 (some (.val (.slice .none 1 (l.map I))))) 5 (some (.loc 5 0))) 4 (some (.loc 4 0)),upd (upd ((fun _=>none)) 5 (some ([.map i0,.map i1]))) 4 (some ([.lit (.map none),.lit (.map none)])),n,v,D,S'⟩):EX (callL p) (.loop F59_l2) ⟨upd (upd (upd (upd (upd ((fun _=>none)) 25 (some (.val (I i)))) 24 (some (.val (I (l.map I).length)))) 23 (some (.val (.slice .none 1 (l.map I))))) 5 (some (.loc 5 0))) 4 (some (.loc 4 0)),upd (upd ((fun _=>none)) 5 (some ([.map i0,.map i1]))) 4 (some ([.lit (.map none),.lit (.map none)])),n,v,D,S⟩ Q:=by
 refine eloop (er (qp J (qb ?_)))
 rintro (_ | _) h1
 ·refine qn (kq6 J) (kq2 J) (eseq (ecF J (eexit (sqx ?_))))
  exact hX _ _ (by rw [List.drop_eq_nil_of_le (by simp at h1 ⊢;omega)];exact hS) (Chg.refl _)
 refine qn (kq6 J) (kq2 J) (eseq (ecT J (eskip (sqn (eseq (eblock (er ?_)))))))
 have hlt:i < l.length:=by simpa using h1
 obtain ⟨a,ha⟩:=get_of_lt hlt
 have hd:=drop_cons ha
 refine hia (y:=I a) rfl rfl (by omega) (by simp [ha]) rfl (qp rfl (qp rfl (qk (kc rfl (kc rfl (kc rfl (kc rfl (kc rfl (kc rfl kn)))))) (kc rfl (kc rfl kn)) (sqn (ereg (qp rfl (qp rfl (qp rfl (hmu rfl rfl rfl rfl hS.h1 ?_)))))))))
 rw [show (AV.lit (.bool true)).er=B true from rfl,setM_add]
 refine qk (kq5 J) (kq2 J) (bqn (sqn (ereg (hadd J J (i64w (by omega)) (qp J (qk (kq5 J) (kq2 J) ?_))))))
 have hS1:=hS.add1 a
 have hc1:Chg (IXA i0 i1) S _:=(Chg.refl S).set (i:=i1) (o:=.map (.int .i64) (setM (addV A a))) fun _=>.inr rfl
 exact cNS_l2 l X _ (i + 1) (by omega) hs hS1 (fun j S2 h c=>hX j S2 (by rw [hd];exact h) (hc1.trans c))
termination_by l.length - i
decreasing_by all_goals omega
theorem setM_nil:setM (fun _=>false)=fun _=>none:=by
 funext k
 cases k <;> try rfl
 rename_i kd n
 cases kd <;> rfl
theorem ps_init (s:Sg):PS s.nx (s.nx + 1) (fun _=>false) (fun _=>false) ((s.new (.map (.int .i64) fun _=>none)).new (.map (.int .i64) fun _=>none)):=by
 refine ⟨?_,?_,?_,?_,?_⟩
 ·rw [setM_nil,new_lt (by simp only [Sg.new];omega)];exact new_ob
 ·rw [setM_nil];exact new_ob
 all_goals first | (simp only [Sg.new];omega) | omega
theorem cNewScope_c (s:Sg) (xs ys:List Int) (h1:xs.length ≤ 2 ^ 40) (h2:ys.length ≤ 2 ^ 40):HC p N59_ [ints xs,ints ys] s (fun r s'=>∃ i0 i1,r=[.agg [.map i0,.map i1]] ∧ PS i0 i1 (setL (fun _=>false) xs) (setL (fun _=>false) ys) s' ∧ Ext s s' ∧ s.nx ≤ i0 ∧ s.nx ≤ i1):=by
 refine hcf J f59_ J ?_
 simp only [chainOf]
 refine er (hal (dq2 J) (qn (kq3 J) (kq1 J) (er (hmkm (hmkm (hbuild J J (lq2 J) (hal (dq6 J) (hstl J J J J (Nlb J) (lq2 J) (qn (kq4 J) (kq2 J) (eseq (er (pq3 J (qn (kq6 J) (kq2 J) (eblock (cNS_l1 xs _ _ 0 (by omega) h1 (ps_init s) ?_)))))))))))))))
 intro j S1 hS1 hc1
 refine bqx (sqn (eseq (er (pq3 J (qn (kq5 J) (kq2 J) (eblock (cNS_l2 ys _ _ 0 (by omega) h2 hS1 ?_)))))))
 intro q S2 hS2 hc2
 refine bqx (sqn (er (hlda J J (lq2 J) (hstl J J J J (Nlb J) (lq2 J) (qn (kq1 J) (kq1 J) (eret (fqr J ?_)))))))
 have en:(s.new (.map (.int .i64) fun _=>none)).nx=s.nx + 1:=rfl
 exact ⟨_,_,rfl,hS2,((Chg.new (Chg.new (Chg.refl s))).trans (hc1.trans hc2)).ext fun i h=>by rcases h with h | h <;> omega,Nat.le_refl _,by omega⟩
theorem addV_old {X:Int → Bool} {v:Int} (h:X v=true):addV X v=X:=by
 funext n
 unfold addV
 by_cases hn:n=v
 ·subst hn;simp [h]
 simp [hn]
def newP (X A:Int → Bool):List Int → List Bool → List (Bool × Int)
 | [],_=>[]
 | v :: vs,cs=>(if (if cs.headD false=true then A else X) v=true then [] else [(cs.headD false,v)]) ++ newP (if cs.headD false=false then addV X v else X) (if cs.headD false=true then addV A v else A) vs cs.tail
def delV (X:Int → Bool) (v:Int):Int → Bool:=fun n=>!decide (n=v) && X n
theorem setM_delV (X:Int → Bool) (v:Int):mset (setM X) (.int .i64 v) none=setM (delV X v):=by
 funext k
 unfold mset
 by_cases h:k=.int .i64 v
 ·subst h;simp [setM,delV]
 rw [if_neg h]
 cases k <;> try rfl
 rename_i kd n
 cases kd <;> try rfl
 have hne:n ≠ v:=fun e=>h (by rw [e])
 simp [setM,delV,hne]
abbrev encP (q:Bool × Int):AV:=.agg [I (sideOf q.1),I q.2]
def CanG (g0:Nat) (o:Own) (S:Sg):Prop:=o=.full ∨ ∃ g,o=.gt g ∧ S.gl g=true ∧ g < S.gn ∧ g0 ≤ g
structure EN (g0 bs ba i0 i1:Nat) (X A:Int → Bool) (ad:List (Bool × Int)) (S:Sg):Prop where
 hB:S.ob bs=some (.row [.map i0,.map i1])
 hA:∃ o,S.ob ba=some (.row [.slice o 2 (ad.map encP)]) ∧ CanG g0 o S
 hS:PS i0 i1 X A S
 bl:bs < S.nx
 al:ba < S.nx
 ba':bs ≠ ba
 b0:bs ≠ i0
 b1:bs ≠ i1
 a0:ba ≠ i0
 a1:ba ≠ i1
theorem PS.at {i0 i1:Nat} {X A:Int → Bool} {S:Sg} (h:PS i0 i1 X A S) (c:Bool):S.ob (if c then i1 else i0)=some (.map (.int .i64) (setM (if c then A else X))):=by
 cases c
 ·exact h.h0
 exact h.h1
section
variable {c:Caller} {E:Nat → Option TV} {L:Nat → Option (List AV)} {n:Nat} {v:Nat → Bool} {D:List (Nat × List AV)} {S:Sg} {l:List AIns} {Q:Fr → Prop}
theorem hapO {d sz by_ g0:Nat} {s x:AO} {o o':Own} {xs ys r:List AV} (h1:evV E s=some (.slice o sz xs)) (h2:evV E x=some (.slice o' sz ys)) (hc:CanG g0 o S) (hne:ys ≠ []) (hlen:(xs.length + ys.length) * by_ ≤ 2 ^ 47) (hr:xs ++ ys=r)
 (k:∀ v' S',v' n=true → (∀ j,j ≠ n → v' j=v j) → S'.ob=S.ob → S'.nx=S.nx → S'.gn=S.gn → (∀ g,g < g0 → S'.gl g=S.gl g) → S'.Q=S.Q → HL c l ⟨upd E d (some (.val (.slice (.tip n) sz r))),L,n + 1,v',D,S'⟩ Q):HL c (⟨some d,none,.app sz by_ s x⟩ :: l) ⟨E,L,n,v,D,S⟩ Q:=by
 rcases hc with rfl | ⟨g,rfl,hg,_,hg0⟩
 ·subst hr
  exact hapF h1 h2 hne hlen fun v' a b=>k v' S a b rfl rfl rfl (fun _ _=>rfl) rfl
 exact hapG h1 h2 hg hne hlen hr fun v' S' a b e1 e2 e3 e4 e5=>k v' S' a b e1 e2 e3 (fun j hj=>e4 j (by omega)) e5
end
theorem EN.old {g0 bs ba i0 i1:Nat} {X A:Int → Bool} {ad:List (Bool × Int)} {S:Sg} (h:EN g0 bs ba i0 i1 X A ad S) {c:Bool} {a:Int} (e:(if c then A else X) a=true) :
 EN g0 bs ba i0 i1 (if c=false then addV X a else X) (if c=true then addV A a else A) (ad ++ (if (if c then A else X) a=true then [] else [(c,a)])) S:=by
 rw [if_pos e,List.append_nil]
 cases c with
 | true=>rw [if_pos rfl,if_neg (by simp),addV_old (by simpa using e)];exact h
 | false=>rw [if_pos rfl,if_neg (by simp),addV_old (by simpa using e)];exact h
theorem newP_cons (X A:Int → Bool) (v:Int) (vs:List Int) (cs:List Bool) (c:Bool) (h:cs.headD false=c):newP X A (v :: vs) cs=(if (if c then A else X) v=true then [] else [(c,v)]) ++ newP (if c=false then addV X v else X) (if c=true then addV A v else A) vs cs.tail:=by
 rw [newP,h]
theorem addsV_cons (w:Bool) (X:Int → Bool) (v:Int) (vs:List Int) (cs:List Bool) (c:Bool) (h:cs.headD false=c):addsV w X (v :: vs) cs=addsV w (if c=w then addV X v else X) vs cs.tail:=by rw [addsV,h]
theorem EN.fin {g0 bs ba i0 i1:Nat} {X A:Int → Bool} {ad:List (Bool × Int)} {S:Sg} {vars:List Int} {cos:List Bool} {i:Nat} {a:Int} {c:Bool} (hd:vars.drop i=a :: vars.drop (i + 1)) (hcd:(cos.drop i).headD false=c)
 (h:EN g0 bs ba i0 i1 (addsV false (if c=false then addV X a else X) (vars.drop (i + 1)) (cos.drop (i + 1))) (addsV true (if c=true then addV A a else A) (vars.drop (i + 1)) (cos.drop (i + 1)))
   (ad ++ (if (if c then A else X) a=true then [] else [(c,a)]) ++ newP (if c=false then addV X a else X) (if c=true then addV A a else A) (vars.drop (i + 1)) (cos.drop (i + 1))) S) :
 EN g0 bs ba i0 i1 (addsV false X (vars.drop i) (cos.drop i)) (addsV true A (vars.drop i) (cos.drop i)) (ad ++ newP X A (vars.drop i) (cos.drop i)) S:=by
 rw [hd,addsV_cons _ _ _ _ _ c hcd,addsV_cons _ _ _ _ _ c hcd,newP_cons _ _ _ _ _ c hcd,List.tail_drop,← List.append_assoc]
 exact h
theorem EN.more {g0 bs ba i0 i1:Nat} {X A:Int → Bool} {ad:List (Bool × Int)} {S S3:Sg} {c:Bool} {a:Int} {g:Nat} (h:EN g0 bs ba i0 i1 X A ad S) (e:(if c then A else X) a=false)
 (f1:S3.ob=upd (S.set (if c then i1 else i0) (.map (.int .i64) (setM (addV (if c then A else X) a)))).ob ba (some (.row [.slice (.gt g) 2 (ad.map encP ++ [.agg [I (sideOf c),I a]])]))) (f2:S3.nx=S.nx) (f3:g < S3.gn) (f4:S3.gl g=true) (f5:g0 ≤ g) :
 EN g0 bs ba i0 i1 (if c=false then addV X a else X) (if c=true then addV A a else A) (ad ++ (if (if c then A else X) a=true then [] else [(c,a)])) S3:=by
 have ho:∀ j,j ≠ ba → S3.ob j=(S.set (if c then i1 else i0) (.map (.int .i64) (setM (addV (if c then A else X) a)))).ob j:=fun j hj=>by rw [f1,upd_ne _ _ hj]
 have hb:∀ j,j ≠ ba → j ≠ (if c then i1 else i0) → S3.ob j=S.ob j:=fun j hj hk=>by rw [ho j hj,set_ne hk]
 refine ⟨?_,⟨.gt g,?_,.inr ⟨g,rfl,f4,f3,f5⟩⟩,?_,by rw [f2];exact h.bl,by rw [f2];exact h.al,h.ba',h.b0,h.b1,h.a0,h.a1⟩
 ·rw [hb bs h.ba' (by cases c;exact h.b0;exact h.b1)];exact h.hB
 ·rw [f1,upd_same,if_neg (by rw [e];simp),List.map_append];rfl
 cases c with
 | true=>exact ⟨by rw [hb i0 (Ne.symm h.a0) h.hS.ne];exact h.hS.h0,by rw [ho i1 (Ne.symm h.a1)];exact set_ob,by rw [f2];exact h.hS.l0,by rw [f2];exact h.hS.l1,h.hS.ne⟩
 | false=>exact ⟨by rw [ho i0 (Ne.symm h.a0)];exact set_ob,by rw [hb i1 (Ne.symm h.a1) (Ne.symm h.hS.ne)];exact h.hS.h1,by rw [f2];exact h.hS.l0,by rw [f2];exact h.hS.l1,h.hS.ne⟩
theorem EN.chg {bs ba i0 i1:Nat} {X A:Int → Bool} {ad:List (Bool × Int)} {S0 S S3:Sg} {c:Bool} {o y:AObj} (h:EN S0.gn bs ba i0 i1 X A ad S) (h0:Chg (fun j=>j=ba ∨ j=i0 ∨ j=i1) S0 S)
 (f1:S3.ob=upd (S.set (if c then i1 else i0) o).ob ba (some y)) (f2:S3.nx=S.nx) (f3:S.gn ≤ S3.gn) (f4:∀ g,g < S0.gn → S3.gl g=S.gl g) (f5:S3.Q=S.Q):Chg (fun j=>j=ba ∨ j=i0 ∨ j=i1) S0 S3:=by
 refine ⟨by have:=h0.nx;omega,fun j hj hx=>?_,by have:=h0.gn;omega,fun g hg=>(f4 g hg).trans (h0.gl g hg),f5.trans h0.Q⟩
 rw [f1,upd_ne _ _ (fun e=>hx (.inl e)),set_ne]
 ·exact h0.ob j hj hx
 intro e
 cases c
 ·exact hx (.inr (.inl e))
 exact hx (.inr (.inr e))
theorem enter_l {bs ba i0 i1:Nat} {S0:Sg} (vars:List Int) (cos:List Bool) (hl:vars.length ≤ cos.length) (X A:Int → Bool) (ad:List (Bool × Int)) (i:Nat) (hi:i ≤ vars.length) (hs:vars.length ≤ 2 ^ 40) {n:Nat} {v:Nat → Bool} {D:List (Nat × List AV)} {S:Sg} {Q:Ex → Fr → Prop}
 (had:ad.length ≤ i) (hE:EN S0.gn bs ba i0 i1 X A ad S) (hc0:Chg (fun j=>j=ba ∨ j=i0 ∨ j=i1) S0 S)
 (hX:∀ j S' n' v',EN S0.gn bs ba i0 i1 (addsV false X (vars.drop i) (cos.drop i)) (addsV true A (vars.drop i) (cos.drop i)) (ad ++ newP X A (vars.drop i) (cos.drop i)) S' → Chg (fun j=>j=ba ∨ j=i0 ∨ j=i1) S0 S' → Q (.exit 0) ⟨upd (upd (upd (upd (upd (upd (upd ((fun _=>none)) 14 (some (.val (B false)))) 13 (some (.val (I j)))) 12 (some (.val (I (vars.map I).length)))) 11 (some (.val (.slice .none 1 (vars.map I))))) 7 (some (.val (.ptr ba 0)))) 3 (some (.val (.ptr bs 0)))) 2 (some (.val (bools cos))),(fun _=>none),n',v',D,S'⟩):EX (callL p) (.loop F60_l1) ⟨upd (upd (upd (upd (upd (upd ((fun _=>none)) 13 (some (.val (I i)))) 12 (some (.val (I (vars.map I).length)))) 11 (some (.val (.slice .none 1 (vars.map I))))) 7 (some (.val (.ptr ba 0)))) 3 (some (.val (.ptr bs 0)))) 2 (some (.val (bools cos))),(fun _=>none),n,v,D,S⟩ Q:=by
 refine eloop (er (qp J (qb ?_)))
 rintro (_ | _) h1
 refine qn (kq7 J) kn (eseq (ecF J (eexit (sqx ?_))))
 exact hX _ _ _ _ (by rw [List.drop_eq_nil_of_le (by simp at h1 ⊢;omega)];simpa [addsV,newP] using hE) hc0
 refine qn (kq7 J) kn (eseq (ecT J (eskip (sqn (eseq (eblock (er (qp J ?_))))))))
 have hlt:i < vars.length:=by simpa using h1
 obtain ⟨a,ha⟩:=get_of_lt hlt
 have hd:=drop_cons ha
 refine hia (y:=I a) rfl rfl (by omega) (by simp [ha]) rfl (qp rfl (qp rfl (qp rfl (qk (kc rfl (kc rfl (kc rfl (kc rfl (kc rfl (kc rfl (kc rfl (kc rfl kn)))))))) kn (sqn (eseq (ereg (qp rfl (qp rfl ?_)))))))))
 obtain ⟨c,hc⟩:=get_of_lt (l:=cos) (i:=i) (by omega)
 have hcd:(cos.drop i).headD false=c:=by rw [coAt_drop];unfold coAt;rw [hc];rfl
 refine hia (y:=B c) rfl rfl (by omega) (by simp [hc]) rfl (qp rfl (hcall rfl rfl rfl (cside_c _ c) ?_))
 rintro _ _ ⟨rfl,hq⟩
 obtain rfl:=hq.symm
 refine qp J (qn (kq8 J) kn (er (qp J ?_)))
 refine qp (t:=.val (.ptr bs (0 + (sideOf c).toNat * 1))) (by cases c <;> rfl) ?_
 refine hldo rfl hE.hB (y:=.map (if c then i1 else i0)) (by cases c <;> rfl) ?_
 refine qp rfl (hlk (id:=if c then i1 else i0) (m:=setM (if c then A else X)) rfl rfl rfl (hE.hS.at c) ?_)
 rw [setM_get]
 refine qb ?_
 rintro (_ | _) h2
 refine qp J (qn (kq9 J) kn (ecT J (er (qp J ?_))))
 refine qp (t:=.val (.ptr bs (0 + (sideOf c).toNat * 1))) (by cases c <;> rfl) ?_
 refine hldo rfl hE.hB (y:=.map (if c then i1 else i0)) (by cases c <;> rfl) ?_
 refine qp rfl (hmu (id:=if c then i1 else i0) (m:=setM (if c then A else X)) rfl rfl rfl rfl (hE.hS.at c) ?_)
 rw [show (AV.lit (.bool true)).er=B true from rfl,setM_add]
 refine qn (kq8 J) kn (ereg ?_)
 obtain ⟨o,hA,hcan⟩:=hE.hA
 have hne:ba ≠ (if c then i1 else i0):=by cases c;exact hE.a0;exact hE.a1
 refine hldo rfl (by rw [set_ne hne];exact hA) rfl ?_
 refine qp rfl (qp rfl (hbuild rfl rfl (lc rfl (lc rfl (ln rfl))) (hbsl rfl rfl (lc rfl (ln rfl)) (hapO (g0:=S0.gn) rfl rfl hcan (by simp) (by simp;omega) rfl ?_))))
 intro v' S2 hv1 hv2 e1 e2 e3 e4 e5
 refine hstT rfl rfl (by rw [e1,set_ne hne];exact hA) (by simp) hv1 rfl ?_
 intro v'' S3 f1 f2 f3 f4 f5 f6 f7
 refine qk (kq6 J) kn (bqn (sqn (ereg (hadd J J (i64w (by omega)) (qp J (qk (kq6 J) kn ?_))))))
 rotate_left
 refine qp J (qn (kq9 J) kn (ecF J (eskip (bqn (sqn (ereg (hadd J J (i64w (by omega)) (qp J (qk (kq6 J) kn ?_)))))))))
 rotate_left
 all_goals
  first
  | (have h2':(if c=true then A else X) a=true:=h2
     exact enter_l vars cos hl _ _ _ (i + 1) (by omega) hs (by split <;> simp <;> first | omega | (split <;> simp <;> omega)) (hE.old h2') hc0 (fun j S' n' v' h c2=>hX j S' n' v' (EN.fin hd hcd h) c2))
  | (have h2':(if c=true then A else X) a=false:=h2
     have hg:=hc0.gn
     have e3':S2.gn=S.gn:=e3
     have f1':S3.ob=upd (S.set (if c then i1 else i0) (.map (.int .i64) (setM (addV (if c then A else X) a)))).ob ba (some (.row [.slice (.gt S2.gn) 2 (ad.map encP ++ [.agg [I (sideOf c),I a]])])):=by rw [f1,e1];rfl
     have f2':S3.nx=S.nx:=f2.trans e2
     exact enter_l vars cos hl _ _ _ (i + 1) (by omega) hs (by split <;> simp <;> first | omega | (split <;> simp <;> omega)) (hE.more h2' f1' f2' (by omega) f4 (by omega)) (EN.chg (c:=c) hE hc0 f1' f2' (by omega) (fun g hg3=>(f5 g (by omega)).trans (e4 g hg3)) (f6.trans e5)) (fun j S' n' v' h c2=>hX j S' n' v' (EN.fin hd hcd h) c2))
termination_by vars.length - i
decreasing_by all_goals omega
theorem en_init {i0 i1:Nat} {X A:Int → Bool} (s:Sg) (hS:PS i0 i1 X A s):EN s.gn s.nx (s.new (.row [.map i0,.map i1])).nx i0 i1 X A [] ((s.new (.row [.map i0,.map i1])).new (.row [.slice .full 2 []])):=by
 have e:(s.new (.row [.map i0,.map i1])).nx=s.nx + 1:=rfl
 have e2:((s.new (.row [.map i0,.map i1])).new (.row [.slice .full 2 []])).nx=s.nx + 2:=rfl
 have l0:=hS.l0
 have l1:=hS.l1
 have hl:∀ j,j < s.nx → ((s.new (.row [.map i0,.map i1])).new (.row [.slice .full 2 []])).ob j=s.ob j:=fun j hj=>by rw [new_lt (by omega),new_lt hj]
 refine ⟨?_,⟨.full,?_,.inl rfl⟩,⟨?_,?_,by omega,by omega,hS.ne⟩,by omega,by omega,by omega,by omega,by omega,by omega,by omega⟩
 ·rw [new_lt (by omega)];exact new_ob
 ·rw [new_ob];rfl
 ·rw [hl i0 l0];exact hS.h0
 rw [hl i1 l1];exact hS.h1
theorem enter_c (s:Sg) (i0 i1:Nat) (X A:Int → Bool) (vars:List Int) (cos:List Bool) (hl:vars.length ≤ cos.length) (hs:vars.length ≤ 2 ^ 40) (hS:PS i0 i1 X A s):HC p N60_ [.agg [.map i0,.map i1],ints vars,bools cos] s (fun r s'=>∃ bs ba,r=[.fn N108_ [] [.ptr ba 0,.ptr bs 0]] ∧ EN s.gn bs ba i0 i1 (addsV false X vars cos) (addsV true A vars cos) (newP X A vars cos) s' ∧ Chg (IXA i0 i1) s s' ∧ s.nx ≤ bs ∧ s.nx ≤ ba):=by
 refine hcf J f60_ J ?_
 simp only [chainOf]
 refine er (hboxo J (lq2 J) (qp J (qn (kq3 J) kn (er (hall (qn (kq4 J) kn (eseq (er (pq3 J (qn (kq6 J) kn (eblock (enter_l vars cos hl X A [] 0 (by omega) hs (by simp) (en_init s hS) ((Chg.new (Chg.new (Chg.refl s))).mono fun i _ h=>h) ?_))))))))))))
 intro j S1 n1 v1 hE hc
 refine bqx (sqn (er (pq2 J (qn (kq1 J) kn (eret (fqr J ?_))))))
 exact ⟨_,_,rfl,hE,hc.mono (fun i hi h=>by rcases h with h | h;exact absurd h (by show i ≠ s.nx + 1;omega);exact h),Nat.le_refl _,Nat.le_succ _⟩
def delP (w:Bool) (X:Int → Bool) (l:List (Bool × Int)):Int → Bool:=fun n=>X n && !(l.any fun q=>decide (q=(w,n)))
theorem delP_cons (w:Bool) (X:Int → Bool) (q:Bool × Int) (l:List (Bool × Int)):delP w X (q :: l)=delP w (if q.1=w then delV X q.2 else X) l:=by
 obtain ⟨c,v⟩:=q
 funext n
 unfold delP delV
 by_cases h:c=w
 ·subst h
  by_cases hn:n=v
  ·subst hn;simp
  have:¬ v=n:=fun e=>hn e.symm
  simp [hn,this]
 simp [h]
theorem delP_nil (w:Bool) (X:Int → Bool):delP w X []=X:=by
 funext n
 simp [delP]
theorem addsV_or {w:Bool}:∀ (vars:List Int) (cos:List Bool) (X:Int → Bool) (n:Int),X n=true → addsV w X vars cos n=true
 | [],_,X,n,h=>by simpa [addsV] using h
 | v :: vs,cs,X,n,h=>by
   rw [addsV]
   apply addsV_or
   split
   ·simp [addV,h]
   exact h
theorem newP_any {w:Bool}:∀ (vars:List Int) (cos:List Bool) (X A:Int → Bool) (n:Int),((newP X A vars cos).any fun q=>decide (q=(w,n)))=(!(if w then A else X) n && addsV w (if w then A else X) vars cos n)
 | [],_,X,A,n=>by simp [newP,addsV]
 | v :: vs,cs,X,A,n=>by
   rw [newP_cons X A v vs cs _ rfl,addsV_cons w _ v vs cs _ rfl,List.any_append,newP_any vs cs.tail]
   generalize cs.headD false=c
   by_cases hc:c=w
   ·subst hc
    have e1:(if c=true then (if c=true then addV A v else A) else (if c=false then addV X v else X))=addV (if c=true then A else X) v:=by cases c <;> rfl
    rw [e1,if_pos rfl]
    by_cases hv:(if c=true then A else X) v=true
    ·rw [if_pos hv,addV_old hv];rfl
    rw [if_neg hv]
    have hv':(if c=true then A else X) v=false:=by simpa using hv
    by_cases hn:n=v
    ·subst hn
     have:=addsV_or (w:=c) vs cs.tail (addV (if c=true then A else X) n) n (by simp [addV])
     rw [hv',this]
     simp
    have h2:¬ v=n:=fun e=>hn e.symm
    simp [addV,hn,h2]
   have e1:(if w=true then (if c=true then addV A v else A) else (if c=false then addV X v else X))=(if w=true then A else X):=by cases c <;> cases w <;> simp_all
   rw [e1,if_neg hc]
   have h2:((if (if c=true then A else X) v=true then [] else [(c,v)]).any fun q=>decide (q=(w,n)))=false:=by
    by_cases hv:(if c=true then A else X) v=true
    ·rw [if_pos hv];rfl
    rw [if_neg hv]
    have:¬ ((c,v):Bool × Int)=(w,n):=fun e=>hc (by cases e;rfl)
    simp only [List.any_cons,List.any_nil,decide_eq_false this,Bool.or_false]
   rw [h2,Bool.false_or]
theorem delP_newP (w:Bool) (X A:Int → Bool) (vars:List Int) (cos:List Bool):delP w (addsV w (if w then A else X) vars cos) (newP X A vars cos)=if w then A else X:=by
 funext n
 unfold delP
 rw [newP_any]
 cases h:(if w=true then A else X) n with
 | true=>rw [addsV_or _ _ _ _ h];rfl
 | false=>cases addsV w (if w=true then A else X) vars cos n <;> rfl
theorem leave_l {bs i0 i1:Nat} {o:Own} (ad:List (Bool × Int)) (X A:Int → Bool) (i:Nat) (hi:i ≤ ad.length) (hs:ad.length ≤ 2 ^ 40) {n:Nat} {v:Nat → Bool} {D:List (Nat × List AV)} {S:Sg} {Q:Ex → Fr → Prop}
 (hB:S.ob bs=some (.row [.map i0,.map i1])) (hS:PS i0 i1 X A S) (b0:bs ≠ i0) (b1:bs ≠ i1)
 (hX:∀ j S',PS i0 i1 (delP false X (ad.drop i)) (delP true A (ad.drop i)) S' → Chg (IXA i0 i1) S S' → Q (.exit 0) ⟨upd (upd (upd (upd (upd ((fun _=>none)) 7 (some (.val (B false)))) 6 (some (.val (I j)))) 5 (some (.val (I (ad.map encP).length)))) 4 (some (.val (.slice o 2 (ad.map encP))))) 1 (some (.val (.ptr bs 0))),(fun _=>none),n,v,D,S'⟩):EX (callL p) (.loop F108_l1) ⟨upd (upd (upd (upd ((fun _=>none)) 6 (some (.val (I i)))) 5 (some (.val (I (ad.map encP).length)))) 4 (some (.val (.slice o 2 (ad.map encP))))) 1 (some (.val (.ptr bs 0))),(fun _=>none),n,v,D,S⟩ Q:=by
 refine eloop (er (qp J (qb ?_)))
 rintro (_ | _) h1
 ·refine qn (kq5 J) kn (eseq (ecF J (eexit (sqx ?_))))
  exact hX _ _ (by rw [List.drop_eq_nil_of_le (by simp at h1 ⊢;omega),delP_nil,delP_nil];exact hS) (Chg.refl _)
 refine qn (kq5 J) kn (eseq (ecT J (eskip (sqn (eseq (eblock (er ?_)))))))
 have hlt:i < ad.length:=by simpa using h1
 obtain ⟨a,ha⟩:=get_of_lt hlt
 have hd:=drop_cons ha
 refine hia (y:=encP a) rfl rfl (by omega) (by simp [ha]) rfl ?_
 obtain ⟨w,x⟩:=a
 refine hlda J J (lq2 J) (hal (dq7 J) (hstl J J J J (Nlb J) (lq2 J) (qn (kq5 J) (kq1 J) (ereg (pq2 J ?_)))))
 refine qp (t:=.val (.ptr bs (0 + (sideOf w).toNat * 1))) (by cases w <;> rfl) ?_
 refine hldo rfl hB (y:=.map (if w then i1 else i0)) (by cases w <;> rfl) ?_
 refine qp rfl (qp rfl (hdl (id:=if w then i1 else i0) (m:=setM (if w then A else X)) rfl rfl rfl (hS.at w) ?_))
 rw [setM_delV]
 refine qk (kq4 J) kn (bqn (sqn (ereg (hadd J J (i64w (by omega)) (qp J (qk (kq4 J) kn ?_))))))
 have hX':=hX
 rw [hd,delP_cons,delP_cons] at hX'
 have him:bs ≠ (if w then i1 else i0):=by cases w;exact b0;exact b1
 refine leave_l ad (if w=false then delV X x else X) (if w=true then delV A x else A) (i + 1) (by omega) hs (by rw [set_ne him];exact hB) ?_ b0 b1 (fun j S' h c=>hX' j S' h (Chg.trans ((Chg.refl S).set (fun _=>by cases w;exact .inl rfl;exact .inr rfl)) c))
 cases w with
 | true=>exact ⟨by rw [if_pos rfl,set_ne hS.ne];exact hS.h0,set_ob,hS.l0,hS.l1,hS.ne⟩
 | false=>exact ⟨set_ob,by rw [if_neg (by simp),set_ne (Ne.symm hS.ne)];exact hS.h1,hS.l0,hS.l1,hS.ne⟩
termination_by ad.length - i
decreasing_by all_goals omega
theorem leave_c (s:Sg) (bs ba i0 i1:Nat) (X A:Int → Bool) (o:Own) (ad:List (Bool × Int)) (hz:ad.length ≤ 2 ^ 40) (hB:s.ob bs=some (.row [.map i0,.map i1])) (hA:s.ob ba=some (.row [.slice o 2 (ad.map encP)])) (hS:PS i0 i1 X A s) (b0:bs ≠ i0) (b1:bs ≠ i1):HC p N108_ [.ptr ba 0,.ptr bs 0] s (fun r s'=>r=[] ∧ PS i0 i1 (delP false X ad) (delP true A ad) s' ∧ Chg (IXA i0 i1) s s'):=by
 refine hcf J f108_ J ?_
 simp only [chainOf]
 refine er (hldo J hA J ?_)
 refine pq2 J (qn (kq4 J) kn (eblock (leave_l ad X A 0 (by omega) hz hB hS b0 b1 ?_)))
 intro j S1 hS1 hc
 refine bqx (fqn J ?_)
 exact ⟨rfl,hS1,hc⟩
structure KV (c:Core) (k i0 i1:Nat) (X A:Int → Bool) (left:Int) (S:Sg):Prop where
 hk:S.ob k=some (.row [SL 3 (c.decls.map Decl.enc),SL 8 (c.funs.map CFun.enc),I left])
 ps:PS i0 i1 X A S
 kl:k < S.nx
 k0:k ≠ i0
 k1:k ≠ i1
abbrev K3 (k i0 i1:Nat):Nat → Prop:=fun j=>j=k ∨ j=i0 ∨ j=i1
def VPost (c:Core) (k i0 i1:Nat) (X A:Int → Bool) (left:Int) (s:Sg) (P:Prop) (nn:Nat) (r:List AV) (s':Sg):Prop :=
 ∃ b left',r=[B b] ∧ KV c k i0 i1 X A left' s' ∧ Chg (K3 k i0 i1) s s' ∧ -1 ≤ left' ∧ left' ≤ left ∧ (b=true ↔ P) ∧ (b=true → left'=left - nn)
def VC (c:Core) (a:Node):Prop:=∀ (s:Sg) (k i0 i1:Nat) (X A:Int → Bool) (left deep:Int),KV c k i0 i1 X A left s → 0 ≤ left → left ≤ 2 ^ 40 → 0 ≤ deep → deep ≤ 4001 →
 HC p N63_ [.ptr k 0,.agg [.map i0,.map i1],.agg a.cs,I deep] s (fun r s'=>VPost c k i0 i1 X A left s (vN c.decls c.funs a X A=true ∧ (nNodes a:Int) ≤ left ∧ deep + nDepth a ≤ 4001) (nNodes a) r s')
def SortsP (c:Core) (l:List Node) (want:List Int) (X A:Int → Bool) (left deep:Int):Prop:=vNs c.decls c.funs l want X A=true ∧ (szL nNodes l:Int) ≤ left ∧ deep + 1 + mxL nDepth l ≤ 4001
theorem sorts_nil {c:Core} {X A:Int → Bool} {left deep:Int} (h0:0 ≤ left) (h1:deep ≤ 4000):SortsP c [] [] X A left deep:=⟨by rw [vNs],by simp [szL];omega,by simp [mxL];omega⟩
theorem sorts_cons {c:Core} {a:Node} {l:List Node} {w:Int} {ws:List Int} {X A:Int → Bool} {left deep:Int} (hs:sortOf a.op=w) (hv:vN c.decls c.funs a X A=true ∧ (nNodes a:Int) ≤ left ∧ deep + 1 + nDepth a ≤ 4001) :
 SortsP c (a :: l) (w :: ws) X A left deep ↔ SortsP c l ws X A (left - nNodes a) deep:=by
 obtain ⟨h1,h2,h3⟩:=hv
 simp only [SortsP,vNs,szL,mxL,hs,h1,decide_true,Bta]
 constructor
 ·rintro ⟨a1,a2,a3⟩;exact ⟨a1,by omega,by omega⟩
 rintro ⟨a1,a2,a3⟩;exact ⟨a1,by omega,by omega⟩
theorem sorts_no {c:Core} {a:Node} {l:List Node} {w:Int} {ws:List Int} {X A:Int → Bool} {left deep:Int} (h:SortsP c (a :: l) (w :: ws) X A left deep):sortOf a.op=w ∧ vN c.decls c.funs a X A=true ∧ (nNodes a:Int) ≤ left ∧ deep + 1 + nDepth a ≤ 4001:=by
 obtain ⟨a1,a2,a3⟩:=h
 simp only [vNs,Bae,Dte] at a1
 simp only [szL,mxL] at a2 a3
 exact ⟨a1.1.1,a1.1.2,by omega,by omega⟩
theorem sorts_len {c:Core} {l:List Node} {ws:List Int} {X A:Int → Bool} {left deep:Int} (h:SortsP c l ws X A left deep):l.length=ws.length:=vNs_len h.1
def xtorAt (ds:List Decl) (t n:Int) (co:Bool):Option Xtor:=match declAt ds t with
 | some d=>if d.codata=co ∧ 0 ≤ n then d.xtors[n.toNat]? else none
 | none=>none
theorem xtor_c (s:Sg) (c:Core) (k:Nat) (left t n:Int) (co:Bool) (hdl:c.decls.length ≤ 2 ^ 40) (hk:s.ob k=some (.row [SL 3 (c.decls.map Decl.enc),SL 8 (c.funs.map CFun.enc),I left])):HC p N109_ [.ptr k 0,I t,I n,B co] s (fun r s'=>s'=s ∧ ∃ x ok,r=[Xtor.enc x,B ok] ∧ xtorAt c.decls t n co=if ok then some x else none):=by
 refine hcf J f109_ J ?_
 simp only [chainOf]
 refine er (hal (dq4 J) (qp J (qn (kq5 J) (kq1 J) (eseq (er (pq2 J (qb ?_)))))))
 rintro (_ | _) h1
 refine qp J (qg J (qp J (qg J (qp J (qg J (qp J (qg J (qp J (qg J (hldo J hk J ?_))))))))))
 refine qg J (qp J (qg J (qp J (qb ?_))))
 rintro (_ | _) h2
 refine pq2 J (qg J (qp J (qg J (qp J (qg J (qp J (qg J (hldo J hk J ?_))))))))
 refine qg rfl (qp rfl (qg rfl (hsub rfl rfl (i64w (by simp at h1 h2;omega)) (qg rfl ?_))))
 have ht1:1 ≤ t:=by simp at h1;omega
 have ht2:t ≤ c.decls.length:=by simp at h2;omega
 obtain ⟨d,hd⟩:=get_of_lt (l:=c.decls) (i:=(t - 1).toNat) (by omega)
 have hda:declAt c.decls t=some d:=by rw [declAt,if_pos ht1];exact hd
 refine hia (y:=Decl.enc d) rfl rfl (by omega) (by rw [Lgm,hd];rfl) rfl ?_
 refine qg J (qp J (qg J (qp J (qg J (qp J (qg J (qp J (qb ?_))))))))
 rintro (_ | _) h3
 refine pq2 J (qg J (qp J (qg J (qp J (qb ?_)))))
 rintro (_ | _) h4
 refine pq2 J (qg J (qp J (qg J (qp J (qg J (qp J (qg J (qp J (qg J (hldo J hk J ?_))))))))))
 refine qg J (qp J (qg J (hsub J J (i64w (by omega)) (qg J ?_))))
 refine hia (y:=Decl.enc d) rfl rfl (by omega) (by rw [Lgm,hd];rfl) rfl ?_
 refine qg J (qp J (qg J (qp J (qg J (qp J (qg J (qp J (qb ?_))))))))
 rintro (_ | _) h5
 refine qp J (qn (kq5 J) (kq1 J) (ecF J (eskip (sqn (er (pq3 J (hldo J hk J ?_)))))))
 refine qp J (hsub J J (i64w (by omega)) ?_)
 refine hia (y:=Decl.enc d) rfl rfl (by omega) (by rw [Lgm,hd];rfl) rfl ?_
 refine pq3 J ?_
 obtain ⟨x,hx⟩:=get_of_lt (l:=d.xtors) (i:=n.toNat) (by simp at *;omega)
 refine hia (y:=Xtor.enc x) rfl rfl (by simp at *;omega) (by rw [Lgm,hx];rfl) rfl ?_
 refine hlda J J (lq2 J) (hstl J J J J (Nlb J) (lq2 J) (qp J (qn (kq2 J) (kq1 J) (eret (fqr J ?_)))))
 rotate_left
 refine qp J (qn (kq5 J) (kq1 J) (ecT J (er (hbuild J J (lq2 J) (hstl J J J J (Nlb J) (lq2 J) (qp J (qn (kq2 J) (kq1 J) (eret (sqr (fqr J ?_))))))))))
 rotate_left
 refine pq2 J (zq10 J (zq2 J (qp J (qn (kq5 J) (kq1 J) (ecT J (er (hbuild J J (lq2 J) (hstl J J J J (Nlb J) (lq2 J) (qp J (qk (kq2 J) (kq1 J) ?_))))))))))
 refine sqn (eret (sqr (fqr J ?_)))
 rotate_left
 refine pq2 J (zq2 J (pq2 J (zq10 J (zq2 J (qp J (qn (kq5 J) (kq1 J) (ecT J (er ?_))))))))
 refine hbuild J J (lq2 J) (hstl J J J J (Nlb J) (lq2 J) (qp J (qn (kq2 J) (kq1 J) (eret (sqr (fqr J ?_))))))
 rotate_left
 refine pq2 J (zq10 J (zq1 J (pq2 J (zq2 J (pq2 J (zq5 J ?_))))))
 refine zq7 J (qp J (qn (kq5 J) (kq1 J) (ecT J (er (hbuild J J (lq2 J) (hstl J J J J (Nlb J) (lq2 J) (qp J (qn (kq2 J) (kq1 J) (eret (sqr (fqr J ?_)))))))))))
 rotate_left
 refine qp J (zq7 J (pq2 J (zq10 J (zq1 J (pq2 J (zq1 J ?_))))))
 refine zq1 J (pq2 J (zq10 J (zq2 J (qp J (qn (kq5 J) (kq1 J) (ecT J (er (hbuild J J (lq2 J) (hstl J J J J (Nlb J) (lq2 J) (qp J ?_))))))))))
 refine qn (kq2 J) (kq1 J) (eret (sqr (fqr J ?_)))
 rotate_left
 all_goals
  first
  | exact ⟨rfl,x,true,rfl,by rw [xtorAt,hda];simp only [];rw [if_pos ⟨by simpa using h3,by simp at h4;omega⟩];exact hx⟩
  | exact ⟨rfl,⟨⟨#[]⟩,[]⟩,false,rfl,by
     rw [xtorAt,hda]
     simp only []
     rcases Decidable.em (d.codata=co ∧ 0 ≤ n) with q | q
     ·rw [if_pos q]
      first
      | (exfalso;have q1:=q.1;have q2:=q.2;simp at *;omega)
      | (exfalso;have q1:=q.1;simp [q1] at h3;done)
      | (rw [List.getElem?_eq_none (by simp at *;omega)];rfl)
     rw [if_neg q];rfl⟩
  | exact ⟨rfl,⟨⟨#[]⟩,[]⟩,false,rfl,by rw [xtorAt,declAt_none (by simp at *;omega)];rfl⟩
theorem sorts_l {k i0 i1:Nat} (c:Core) (l:List Node) (want:List Int) (X A:Int → Bool) (hlen:l.length=want.length) (deep:Int) (hdeep:0 ≤ deep ∧ deep ≤ 4000) (H:∀ b ∈ l,VC c b) (i:Nat) (hi:i ≤ l.length) (hs:l.length ≤ 2 ^ 40) {n:Nat} {v:Nat → Bool} {D:List (Nat × List AV)} {S:Sg} {Q:Ex → Fr → Prop}
 (left:Int) (h0:0 ≤ left ∧ left ≤ 2 ^ 40) (hK:KV c k i0 i1 X A left S)
 (hX:∀ j S' left',KV c k i0 i1 X A left' S' → Chg (K3 k i0 i1) S S' → SortsP c (l.drop i) (want.drop i) X A left deep → left'=left - szL nNodes (l.drop i) → 0 ≤ left' → Q (.exit 0) ⟨upd (upd (upd (upd (upd (upd (upd (upd ((fun _=>none)) 21 (some (.val (B false)))) 20 (some (.val (I j)))) 19 (some (.val (I (l.map Node.enc).length)))) 18 (some (.val (.slice .none 5 (l.map Node.enc))))) 6 (some (.loc 6 0))) 4 (some (.val (ints want)))) 3 (some (.val (I deep)))) 0 (some (.val (.ptr k 0))),upd ((fun _=>none)) 6 (some ([.map i0,.map i1])),n,v,D,S'⟩)
 (hR:∀ S' left',KV c k i0 i1 X A left' S' → Chg (K3 k i0 i1) S S' → -1 ≤ left' → left' ≤ left → ¬ SortsP c (l.drop i) (want.drop i) X A left deep → Q .ret ⟨upd ((fun _=>none)) 10 (some (.val (B false))),(fun _=>none),n,v,D,S'⟩):EX (callL p) (.loop F111_l1) ⟨upd (upd (upd (upd (upd (upd (upd ((fun _=>none)) 20 (some (.val (I i)))) 19 (some (.val (I (l.map Node.enc).length)))) 18 (some (.val (.slice .none 5 (l.map Node.enc))))) 6 (some (.loc 6 0))) 4 (some (.val (ints want)))) 3 (some (.val (I deep)))) 0 (some (.val (.ptr k 0))),upd ((fun _=>none)) 6 (some ([.map i0,.map i1])),n,v,D,S⟩ Q:=by
 refine eloop (er (qp J (qb ?_)))
 rintro (_ | _) h1
 refine qn (kq8 J) (kq1 J) (eseq (ecF J (eexit (sqx ?_))))
 exact hX _ _ left hK (Chg.refl _) (by rw [List.drop_eq_nil_of_le (by simp at h1 ⊢;omega),List.drop_eq_nil_of_le (by simp at h1 ⊢;omega)];exact sorts_nil h0.1 hdeep.2) (by rw [List.drop_eq_nil_of_le (by simp at h1 ⊢;omega)];simp [szL]) h0.1
 refine qn (kq8 J) (kq1 J) (eseq (ecT J (eskip (sqn (eseq (eblock (er (qp J ?_))))))))
 have hlt:i < l.length:=by simpa using h1
 obtain ⟨a,ha⟩:=get_of_lt hlt
 have hd:=drop_cons ha
 refine hia (y:=.agg a.cs) rfl rfl (by omega) (by simp [ha,Node.enc_eq,Br.enc_eq,CFun.enc_eq]) rfl (hlda rfl rfl (lc rfl (lc rfl (lc rfl (lc rfl (lc rfl (ln rfl)))))) (hal (dc (dc (dc (dc (dc (dc (dc (dc (dc (dc (dc dn rfl) rfl) rfl) rfl) rfl) rfl) rfl) rfl) rfl) rfl) rfl) (qp rfl (hstl rfl rfl rfl rfl (Nlb rfl) (lc rfl (lc rfl (lc rfl (lc rfl (lc rfl (ln rfl)))))) (qk (kc rfl (kc rfl (kc rfl (kc rfl (kc rfl (kc rfl (kc rfl (kc rfl (kc rfl kn))))))))) (kc rfl (kc rfl kn)) (sqn (eseq (ereg (qp rfl (qp rfl (hcall rfl rfl rfl (Sort_c _ _) ?_)))))))))))
 rintro _ _ ⟨rfl,hq⟩
 obtain rfl:=hq.symm
 refine pq2 J ?_
 obtain ⟨w,hw⟩:=get_of_lt (l:=want) (i:=i) (by omega)
 have hw2:=drop_cons hw
 refine hia (y:=I w) rfl rfl (by omega) (by simp [hw]) rfl (qp rfl (qp rfl (qb ?_)))
 rintro (_ | _) h2
 refine qp J (qg J (qp J (qg J (hlda J J (lq2 J) (qg J (hlda J J (lq5 J) (qg J (qp J (qg J (hadd J J (i64w (by omega)) (qg J (hcall J J J (H a (Lmg ha) _ k i0 i1 X A left (deep + 1) hK h0.1 h0.2 (by omega) (by omega)) ?_))))))))))))
 rintro _ S' ⟨b,left',rfl,hK',hc',q3,q4,q5,q6⟩
 refine qb ?_
 rintro (_ | _) h3
 refine qg J (pq2 J (qn (kq8 J) (kq1 J) (ecT J (er (qp J (qn (kq1 J) kn (eret (bqr (sqr ?_)))))))))
 rotate_left
 refine qg J (pq2 J (qn (kq8 J) (kq1 J) (ecF J (eskip (bqn (sqn (ereg (hadd J J (i64w (by omega)) (qp J (qk (kq7 J) (kq1 J) ?_))))))))))
 have f1:(!decide (sortOf a.op=w))=false:=by assumption
 have f1':sortOf a.op=w:=by simpa using f1
 have f2:b=true:=by assumption
 subst f2
 have hv:=q5.1 rfl
 have hl':=q6 rfl
 have hz1:0 ≤ left':=by have:=hv.2.1;omega
 exact sorts_l c l want X A hlen deep hdeep H (i + 1) (by omega) hs left' ⟨hz1,by omega⟩ hK'
  (fun j S2 l2 h c2 e1 e2 e3=>hX j S2 l2 h (hc'.trans c2) (by rw [hd,hw2];exact (sorts_cons f1' hv).2 (hl' ▸ e1)) (by rw [e2,hl',hd];simp only [szL];omega) e3)
  (fun S2 l2 h c2 e1 e2 e3=>hR S2 l2 h (hc'.trans c2) e1 (by omega) (by rw [hd,hw2];exact fun q=>e3 (hl' ▸ (sorts_cons f1' hv).1 q)))
 refine qp J (zq7 J (qp J (qn (kq8 J) (kq1 J) (ecT J (er (qp J (qn (kq1 J) kn (eret (bqr (sqr ?_))))))))))
 rotate_left
 all_goals
  first
  | (have f1:(!decide (sortOf a.op=w))=true:=by assumption
     refine hR _ left hK (Chg.refl _) (by omega) (by omega) fun h=>?_
     rw [hd,hw2] at h
     have:=(sorts_no h).1
     simp [this] at f1)
  | (refine hR _ left' hK' hc' q3 q4 fun h=>?_
     rw [hd,hw2] at h
     have:=q5.2 (sorts_no h).2
     simp_all)
termination_by l.length - i
decreasing_by all_goals omega
theorem sorts_c (s:Sg) (c:Core) (k i0 i1:Nat) (X A:Int → Bool) (left deep:Int) (l:List Node) (want:List Int) (hz:l.length ≤ 2 ^ 40) (hdeep:0 ≤ deep ∧ deep ≤ 4000) (h0:0 ≤ left ∧ left ≤ 2 ^ 40) (hK:KV c k i0 i1 X A left s) (H:∀ b ∈ l,VC c b):HC p N111_ [.ptr k 0,.agg [.map i0,.map i1],SL 5 (l.map Node.enc),I deep,ints want] s (fun r s'=>VPost c k i0 i1 X A left s (SortsP c l want X A left deep) (szL nNodes l) r s'):=by
 refine hcf J f111_ J ?_
 simp only [chainOf]
 refine er (hbox (dq5 J) J (lq2 J) (qp J (qn (kq5 J) (kq1 J) (eseq (er (pq5 J (qb ?_)))))))
 rintro (_ | _) h1
 refine qn (kq6 J) (kq1 J) (ecF J (eskip (sqn (eseq (er (pq3 J (qn (kq7 J) (kq1 J) (eblock ?_))))))))
 refine sorts_l c l want X A (by simp at h1;omega) deep hdeep H 0 (by omega) hz left h0 hK ?_ ?_
 intro j S1 l1 hK1 hc1 e1 e2 e3
 refine bqx (sqn (er (qp J (qn (kq1 J) kn (eret (fqr J ?_))))))
 rotate_left
 intro S1 l1 hK1 hc1 e1 e2 e3
 refine bqr (sqr (fqr J ?_))
 rotate_left
 refine qn (kq6 J) (kq1 J) (ecT J (er (qp J (qn (kq1 J) kn (eret (sqr (fqr J ?_)))))))
 rotate_left
 all_goals
  first
  | (refine ⟨false,left,rfl,hK,Chg.refl _,by omega,by omega,⟨fun h=>by simp at h,fun h=>?_⟩,fun h=>by simp at h⟩
     have:=sorts_len h
     simp at h1
     omega)
  | exact ⟨true,l1,rfl,hK1,hc1,by omega,by omega,⟨fun _=>by simpa using e1,fun _=>rfl⟩,fun _=>by simpa using e2⟩
  | exact ⟨false,l1,rfl,hK1,hc1,e1,e2,⟨fun h=>by simp at h,fun h=>absurd (by simpa using h) e3⟩,fun h=>by simp at h⟩
theorem take_map2 {α:Type} {g:α → Int} {l:List α} {i:Nat} {a:α} (ha:l[i]?=some a):((l.take i).map g).map I ++ [I (g a)]=((l.take (i + 1)).map g).map I:=by simp [List.take_add_one,ha]
theorem cargs_l {x0 x2 x4:AV} {cs6:List AV} (l:List Arg) (o:Own) (i:Nat) (hi:i ≤ l.length) (hs:l.length ≤ 2 ^ 40) {n:Nat} {v:Nat → Bool} {D:List (Nat × List AV)} {S:Sg} {Q:Ex → Fr → Prop}
 (hlv:Can o v) (hX:∀ j n' v' o',Q (.exit 0) ⟨upd (upd (upd (upd (upd (upd (upd (upd (upd ((fun _=>none)) 17 (some (.val (B false)))) 16 (some (.val (I j)))) 15 (some (.val (I (l.map Arg.enc).length)))) 14 (some (.val (.slice .none 2 (l.map Arg.enc))))) 11 (some (.val (.slice o' 1 ((l.map (fun a=>sideOf a.co)).map I))))) 6 (some (.loc 6 0))) 4 (some (.val x4))) 2 (some (.val x2))) 0 (some (.val x0)),upd ((fun _=>none)) 6 (some (cs6)),n',v',D,S⟩):EX (callL p) (.loop F110_l1) ⟨upd (upd (upd (upd (upd (upd (upd (upd ((fun _=>none)) 16 (some (.val (I i)))) 15 (some (.val (I (l.map Arg.enc).length)))) 14 (some (.val (.slice .none 2 (l.map Arg.enc))))) 11 (some (.val (.slice o 1 (((l.take i).map (fun a=>sideOf a.co)).map I))))) 6 (some (.loc 6 0))) 4 (some (.val x4))) 2 (some (.val x2))) 0 (some (.val x0)),upd ((fun _=>none)) 6 (some (cs6)),n,v,D,S⟩ Q:=by
 refine eloop (er (qp J (qb ?_)))
 rintro (_ | _) h1
 ·refine qn (kq9 J) (kq1 J) (eseq (ecF J (eexit (sqx ?_))))
  have e:l.take i=l:=List.take_of_length_le (by simp at h1 ⊢;omega)
  rw [e]
  exact hX _ _ _ _
 refine qn (kq9 J) (kq1 J) (eseq (ecT J (eskip (sqn (eseq (eblock (er ?_)))))))
 have hlt:i < l.length:=by simpa using h1
 obtain ⟨a,ha⟩:=get_of_lt hlt
 have hd:=drop_cons ha
 refine hia (y:=Arg.enc a) rfl rfl (by omega) (by simp [ha]) rfl (hlda rfl rfl (lc rfl (lc rfl (ln rfl))) (hal (dc (dc (dc (dc (dc (dc (dc (dc (dc (dc (dc dn rfl) rfl) rfl) rfl) rfl) rfl) rfl) rfl) rfl) rfl) rfl) (hstl rfl rfl rfl rfl (Nlb rfl) (lc rfl (lc rfl (ln rfl))) (qk (kc rfl (kc rfl (kc rfl (kc rfl (kc rfl (kc rfl (kc rfl (kc rfl (kc rfl kn))))))))) (kc rfl (kc rfl kn)) (sqn (ereg (qp rfl (qp rfl (qp rfl (hcall rfl rfl rfl (cside_c _ a.co) ?_))))))))))
 rintro _ _ ⟨rfl,hq⟩
 obtain rfl:=hq.symm
 refine hbsl rfl rfl (lq1 rfl) (hapC rfl rfl hlv (by simp) (by simp;omega) (take_map2 ha) ?_)
 intro v' hv1 hv2
 refine qp J (qk (kq8 J) (kq1 J) (bqn (sqn (ereg (hadd J J (i64w (by omega)) (qp J (qk (kq8 J) (kq1 J) ?_)))))))
 exact cargs_l l (.tip n) (i + 1) (by omega) hs hv1 hX
termination_by l.length - i
decreasing_by all_goals omega
theorem args_cc (s:Sg) (c:Core) (k i0 i1:Nat) (X A:Int → Bool) (left deep:Int) (l:List Node) (as:List Arg) (hz:l.length ≤ 2 ^ 40) (hza:as.length ≤ 2 ^ 40) (hdeep:0 ≤ deep ∧ deep ≤ 4000) (h0:0 ≤ left ∧ left ≤ 2 ^ 40) (hK:KV c k i0 i1 X A left s) (H:∀ b ∈ l,VC c b):HC p N110_ [.ptr k 0,.agg [.map i0,.map i1],SL 5 (l.map Node.enc),encArgs as,I deep] s (fun r s'=>VPost c k i0 i1 X A left s (SortsP c l (as.map fun (a:Arg)=>sideOf a.co) X A left deep) (szL nNodes l) r s'):=by
 refine hcf J f110_ J ?_
 simp only [chainOf]
 refine er (hbox (dq5 J) J (lq2 J) (qp J (qn (kq5 J) (kq1 J) (er (qp J (qn (kq6 J) (kq1 J) (eseq (er (pq3 J (qn (kq8 J) (kq1 J) (eblock (cargs_l as .full 0 (by omega) hza trivial ?_))))))))))))
 intro j n1 v1 o1
 refine bqx (sqn (er (qp J (hlda J J (lq2 J) (pq3 J (hcall J J J (sorts_c _ c k i0 i1 X A left deep l (as.map fun (a:Arg)=>sideOf a.co) hz hdeep h0 hK H) ?_))))))
 rintro _ S' ⟨b,left',rfl,hP⟩
 refine qp J (qn (kq1 J) kn (eret (fqr J ?_)))
 exact ⟨b,left',rfl,hP⟩
theorem KV.ext {c:Core} {k i0 i1:Nat} {X A:Int → Bool} {left:Int} {S S':Sg} (h:KV c k i0 i1 X A left S) (e:Ext S S'):KV c k i0 i1 X A left S' :=
 ⟨(e.ob k h.kl).trans h.hk,h.ps.keep (e.chg (X:=fun _=>False)) id id,Nat.lt_of_lt_of_le h.kl e.nx,h.k0,h.k1⟩
theorem newP_len:∀ (vars:List Int) (cos:List Bool) (X A:Int → Bool),(newP X A vars cos).length ≤ vars.length
 | [],_,_,_=>by simp [newP]
 | v :: vs,cs,X,A=>by
   rw [newP,List.length_append]
   have:=newP_len vs cs.tail (if cs.headD false=false then addV X v else X) (if cs.headD false=true then addV A v else A)
   have h1:(if (if cs.headD false=true then A else X) v=true then [] else [(cs.headD false,v)]).length ≤ 1:=by cases (if cs.headD false=true then A else X) v <;> simp
   rw [List.length_cons]
   omega
theorem en_kv {c:Core} {k i0 i1 bs ba:Nat} {X A X' A':Int → Bool} {ad:List (Bool × Int)} {left:Int} {s S1:Sg} {g:Nat} (hK:KV c k i0 i1 X A left s) (hE:EN g bs ba i0 i1 X' A' ad S1) (hc1:Chg (IXA i0 i1) s S1):KV c k i0 i1 X' A' left S1 :=
 ⟨(hc1.ob k hK.kl (fun h=>by rcases h with h | h;exact hK.k0 h;exact hK.k1 h)).trans hK.hk,hE.hS,Nat.lt_of_lt_of_le hK.kl hc1.nx,hK.k0,hK.k1⟩
theorem lv_c {c:Core} {k i0 i1 bs ba:Nat} {X A:Int → Bool} {vars:List Int} {cos:List Bool} {left left':Int} {s S1 S2:Sg} (hK:KV c k i0 i1 X A left s) (hE:EN s.gn bs ba i0 i1 (addsV false X vars cos) (addsV true A vars cos) (newP X A vars cos) S1) (hc1:Chg (IXA i0 i1) s S1) (hbs:s.nx ≤ bs) (hba:s.nx ≤ ba)
 (hK2:KV c k i0 i1 (addsV false X vars cos) (addsV true A vars cos) left' S2) (hc2:Chg (K3 k i0 i1) S1 S2) (hv:vars.length ≤ 2 ^ 40):HC p N108_ [.ptr ba 0,.ptr bs 0] S2 (fun r S3=>r=[] ∧ KV c k i0 i1 X A left' S3 ∧ Chg (K3 k i0 i1) s S3):=by
 have kl:=hK.kl
 have nb:¬ K3 k i0 i1 bs:=fun h=>by rcases h with h | h | h;omega;exact hE.b0 h;exact hE.b1 h
 have na:¬ K3 k i0 i1 ba:=fun h=>by rcases h with h | h | h;omega;exact hE.a0 h;exact hE.a1 h
 obtain ⟨o,hA,_⟩:=hE.hA
 have hlen:=newP_len vars cos X A
 refine (leave_c S2 bs ba i0 i1 _ _ o (newP X A vars cos) (by omega) ((hc2.ob bs hE.bl nb).trans hE.hB) ((hc2.ob ba hE.al na).trans hA) hK2.ps hE.b0 hE.b1).mono ?_
 rintro r S3 ⟨rfl,hS3,hc3⟩
 have d0:=delP_newP false X A vars cos
 have d1:=delP_newP true X A vars cos
 simp only [if_true,Bool.false_eq_true,if_false] at d0 d1
 rw [d0,d1] at hS3
 have hc3':Chg (K3 k i0 i1) S2 S3:=hc3.mono fun i _ h=>.inr h
 have hc1':Chg (K3 k i0 i1) s S1:=hc1.mono fun i _ h=>.inr h
 exact ⟨rfl,⟨(hc3.ob k hK2.kl (fun h=>by rcases h with h | h;exact hK.k0 h;exact hK.k1 h)).trans hK2.hk,hS3,Nat.lt_of_lt_of_le hK2.kl hc3.nx,hK.k0,hK.k1⟩,hc1'.trans (hc2.trans hc3')⟩
def BrsP (c:Core) (l:List Br) (xs:List Xtor) (X A:Int → Bool) (left deep:Int):Prop:=vBs c.decls c.funs l xs X A=true ∧ (szL (fun b=>nNodes b.body) l:Int) ≤ left ∧ deep + 1 + mxL (fun b=>nDepth b.body) l ≤ 4001
theorem brs_no {c:Core} {b:Br} {l:List Br} {x:Xtor} {xs:List Xtor} {X A:Int → Bool} {left deep:Int} (h:BrsP c (b :: l) (x :: xs) X A left deep):b.vars.length=x.args.length ∧ b.co=(x.args.map fun a=>a.co) ∧ distinctOk [] (b.vars.zip b.co)=true ∧ sortOf b.body.op=2 ∧
 (vN c.decls c.funs b.body (addsV false X b.vars b.co) (addsV true A b.vars b.co)=true ∧ (nNodes b.body:Int) ≤ left ∧ deep + 1 + nDepth b.body ≤ 4001):=by
 obtain ⟨a1,a2,a3⟩:=h
 simp only [vBs,vB_eq,Bae,Dte] at a1
 simp only [szL,mxL] at a2 a3
 obtain ⟨⟨⟨⟨⟨b1,b2⟩,b3⟩,b4⟩,b5⟩,_⟩:=a1
 exact ⟨b1,b2,b3,b4,b5,by omega,by omega⟩
theorem brs_cons {c:Core} {b:Br} {l:List Br} {x:Xtor} {xs:List Xtor} {X A:Int → Bool} {left deep:Int} (h:b.vars.length=x.args.length ∧ b.co=(x.args.map fun a=>a.co) ∧ distinctOk [] (b.vars.zip b.co)=true ∧ sortOf b.body.op=2 ∧
 (vN c.decls c.funs b.body (addsV false X b.vars b.co) (addsV true A b.vars b.co)=true ∧ (nNodes b.body:Int) ≤ left ∧ deep + 1 + nDepth b.body ≤ 4001)):BrsP c (b :: l) (x :: xs) X A left deep ↔ BrsP c l xs X A (left - nNodes b.body) deep:=by
 obtain ⟨b1,b2,b3,b4,b5,b6,b7⟩:=h
 simp only [BrsP,vBs,vB_eq,szL,mxL,b5,b4,b3,b1,decide_true,Bool.and_true,Bta]
 rw [decide_eq_true b2,Bta]
 constructor
 ·rintro ⟨a1,a2,a3⟩;exact ⟨a1,by omega,by omega⟩
 rintro ⟨a1,a2,a3⟩;exact ⟨a1,by omega,by omega⟩
theorem brs_nil {c:Core} {X A:Int → Bool} {left deep:Int} (h0:0 ≤ left) (h1:deep ≤ 4000):BrsP c [] [] X A left deep:=⟨by rw [vBs],by simp [szL];omega,by simp [mxL];omega⟩
theorem cbr_l2 (vs:List Int) (co:List Bool) (bd cs5:List AV) (al:List Arg) (hlen:co.length=al.length) (i:Nat) (hi:i ≤ al.length) (hs:al.length ≤ 2 ^ 40) {x0 x3 x9 x33 x34 x35:AV} {n:Nat} {v:Nat → Bool} {D:List (Nat × List AV)} {S:Sg} {Q:Ex → Fr → Prop}
 (hX:∀ j,co.drop i=(al.drop i).map (fun a=>a.co) → Q (.exit 2) ⟨upd (upd (upd (upd (upd (upd (upd (upd (upd (upd (upd (upd ((fun _=>none)) 65 (some (.val (B false)))) 64 (some (.val (I j)))) 63 (some (.val (I (al.map Arg.enc).length)))) 62 (some (.val (.slice .none 2 (al.map Arg.enc))))) 35 (some (.val x35))) 34 (some (.val x34))) 33 (some (.val x33))) 11 (some (.loc 11 0))) 9 (some (.val x9))) 5 (some (.loc 5 0))) 3 (some (.val x3))) 0 (some (.val x0)),upd (upd ((fun _=>none)) 11 (some (ints vs :: bools co :: bd))) 5 (some (cs5)),n,v,D,S⟩) (hR:co.drop i ≠ (al.drop i).map (fun a=>a.co) → Q .ret ⟨upd ((fun _=>none)) 8 (some (.val (B false))),(fun _=>none),n,v,D,S⟩):EX (callL p) (.loop F112_l2) ⟨upd (upd (upd (upd (upd (upd (upd (upd (upd (upd (upd ((fun _=>none)) 64 (some (.val (I i)))) 63 (some (.val (I (al.map Arg.enc).length)))) 62 (some (.val (.slice .none 2 (al.map Arg.enc))))) 35 (some (.val x35))) 34 (some (.val x34))) 33 (some (.val x33))) 11 (some (.loc 11 0))) 9 (some (.val x9))) 5 (some (.loc 5 0))) 3 (some (.val x3))) 0 (some (.val x0)),upd (upd ((fun _=>none)) 11 (some (ints vs :: bools co :: bd))) 5 (some (cs5)),n,v,D,S⟩ Q:=by
 refine eloop (er (qp J (qb ?_)))
 rintro (_ | _) h1
 ·refine qn (kq12 J) (kq2 J) (eseq (ecF J (eexit (sqx ?_))))
  exact hX _ (by rw [List.drop_eq_nil_of_le (by simp at h1 ⊢;omega),List.drop_eq_nil_of_le (by simp at h1 ⊢;omega)];rfl)
 refine qn (kq12 J) (kq2 J) (eseq (ecT J (eskip (sqn (eseq (eblock (er (qp J ?_))))))))
 have hlt:i < al.length:=by simpa using h1
 obtain ⟨a,ha⟩:=get_of_lt hlt
 have hd:=drop_cons ha
 refine hia (y:=Arg.enc a) rfl rfl (by omega) (by simp [ha]) rfl (hlda rfl rfl (lc rfl (lc rfl (ln rfl))) (hal (dc (dc (dc (dc (dc (dc (dc (dc (dc (dc (dc (dc (dc (dc (dc dn rfl) rfl) rfl) rfl) rfl) rfl) rfl) rfl) rfl) rfl) rfl) rfl) rfl) rfl) rfl) (qp rfl (hstl rfl rfl rfl rfl (Nlb rfl) (lc rfl (lc rfl (ln rfl))) (qk (kc rfl (kc rfl (kc rfl (kc rfl (kc rfl (kc rfl (kc rfl (kc rfl (kc rfl (kc rfl (kc rfl (kc rfl (kc rfl kn))))))))))))) (kc rfl (kc rfl (kc rfl kn))) (sqn (eseq (ereg (qp rfl (qp rfl (qp rfl ?_)))))))))))
 obtain ⟨c,hc⟩:=get_of_lt (l:=co) (i:=i) (by omega)
 have hc2:=drop_cons hc
 refine hia (y:=B c) rfl rfl (by omega) (by simp [hc]) rfl (qp rfl (qp rfl (qp rfl (qp rfl (qb ?_)))))
 rintro (_ | _) h2
 ·refine qn (kq12 J) (kq2 J) (ecF J (eskip (bqn (sqn (ereg (hadd J J (i64w (by omega)) (qp J (qk (kq11 J) (kq2 J) ?_))))))))
  have f1:(!(c == a.co))=false:=by assumption
  have f1':c=a.co:=by simpa using f1
  exact cbr_l2 vs co bd cs5 al hlen (i + 1) (by omega) hs (fun j h=>hX j (by rw [hd,hc2,List.map_cons,h,f1'])) (fun h=>hR (by rw [hd,hc2,List.map_cons];intro q;injection q with q1 q2;exact h q2))
 refine qn (kq12 J) (kq2 J) (ecT J (er (qp J (qn (kq1 J) kn (eret (bqr (sqr ?_)))))))
 have f1:(!(c == a.co))=true:=by assumption
 have f1':¬ c=a.co:=by simpa using f1
 exact hR (by rw [hd,hc2,List.map_cons];intro q;injection q with q1 q2;exact f1' q1)
termination_by al.length - i
decreasing_by all_goals omega
theorem cbr_l1 {k i0 i1:Nat} (c:Core) (l:List Br) (d:Decl) (X A:Int → Bool) (hlen:l.length=d.xtors.length) (deep:Int) (hdeep:0 ≤ deep ∧ deep ≤ 4000) (hza:∀ x ∈ d.xtors,x.args.length ≤ 2 ^ 40) (hzb:∀ b ∈ l,b.sz ≤ 2 ^ 40) (H:∀ b ∈ l,VC c b.body) (i:Nat) (hi:i ≤ l.length) (hs:l.length ≤ 2 ^ 40) {n:Nat} {v:Nat → Bool} {D:List (Nat × List AV)} {S:Sg} {Q:Ex → Fr → Prop}
 (left:Int) (h0:0 ≤ left ∧ left ≤ 2 ^ 40) (hK:KV c k i0 i1 X A left S)
 (hX:∀ j S' left',KV c k i0 i1 X A left' S' → Chg (K3 k i0 i1) S S' → BrsP c (l.drop i) (d.xtors.drop i) X A left deep → left'=left - szL (fun b=>nNodes b.body) (l.drop i) → 0 ≤ left' → Q (.exit 0) ⟨upd (upd (upd (upd (upd (upd (upd (upd ((fun _=>none)) 36 (some (.val (B false)))) 35 (some (.val (I j)))) 34 (some (.val (I (l.map Br.enc).length)))) 33 (some (.val (.slice .none 7 (l.map Br.enc))))) 9 (some (.val (SL 2 (d.xtors.map Xtor.enc))))) 5 (some (.loc 5 0))) 3 (some (.val (I deep)))) 0 (some (.val (.ptr k 0))),upd ((fun _=>none)) 5 (some ([.map i0,.map i1])),n,v,D,S'⟩)
 (hR:∀ S' left',KV c k i0 i1 X A left' S' → Chg (K3 k i0 i1) S S' → -1 ≤ left' → left' ≤ left → ¬ BrsP c (l.drop i) (d.xtors.drop i) X A left deep → Q .ret ⟨upd ((fun _=>none)) 8 (some (.val (B false))),(fun _=>none),n,v,D,S'⟩):EX (callL p) (.loop F112_l1) ⟨upd (upd (upd (upd (upd (upd (upd ((fun _=>none)) 35 (some (.val (I i)))) 34 (some (.val (I (l.map Br.enc).length)))) 33 (some (.val (.slice .none 7 (l.map Br.enc))))) 9 (some (.val (SL 2 (d.xtors.map Xtor.enc))))) 5 (some (.loc 5 0))) 3 (some (.val (I deep)))) 0 (some (.val (.ptr k 0))),upd ((fun _=>none)) 5 (some ([.map i0,.map i1])),n,v,D,S⟩ Q:=by
 refine eloop (er (qp J (qb ?_)))
 rintro (_ | _) h1
 refine qn (kq8 J) (kq1 J) (eseq (ecF J (eexit (sqx ?_))))
 exact hX _ _ left hK (Chg.refl _) (by rw [List.drop_eq_nil_of_le (by simp at h1 ⊢;omega),List.drop_eq_nil_of_le (by simp at h1 ⊢;omega)];exact brs_nil h0.1 hdeep.2) (by rw [List.drop_eq_nil_of_le (by simp at h1 ⊢;omega)];simp [szL]) h0.1
 refine qn (kq8 J) (kq1 J) (eseq (ecT J (eskip (sqn (eseq (eblock (er (qp J ?_))))))))
 have hlt:i < l.length:=by simpa using h1
 obtain ⟨a,ha⟩:=get_of_lt hlt
 have hd:=drop_cons ha
 refine hia (y:=.agg (ints a.vars :: bools a.co :: a.body.cs)) rfl rfl (by omega) (by simp [ha,Node.enc_eq,Br.enc_eq,CFun.enc_eq]) rfl (hlda rfl rfl (lc rfl (lc rfl (lc rfl (lc rfl (lc rfl (lc rfl (lc rfl (ln rfl)))))))) (hal (dc (dc (dc (dc (dc (dc (dc (dc (dc (dc (dc dn rfl) rfl) rfl) rfl) rfl) rfl) rfl) rfl) rfl) rfl) rfl) (qp rfl (hstl rfl rfl rfl rfl (Nlb rfl) (lc rfl (lc rfl (lc rfl (lc rfl (lc rfl (lc rfl (lc rfl (ln rfl)))))))) (qk (kc rfl (kc rfl (kc rfl (kc rfl (kc rfl (kc rfl (kc rfl (kc rfl (kc rfl kn))))))))) (kc rfl (kc rfl kn)) (sqn (eseq (eseq (ereg (qp rfl (qp rfl (qp rfl (qp rfl (qp rfl ?_))))))))))))))
 obtain ⟨x,hx⟩:=get_of_lt (l:=d.xtors) (i:=i) (by omega)
 have hx2:=drop_cons hx
 have hzv:=Br.sz_vars a
 have hzz:=hzb a (Lmg ha)
 refine hia (y:=Xtor.enc x) rfl rfl (by omega) (by simp [hx]) rfl (qp rfl (qp rfl (qp rfl (qp rfl (qb ?_)))))
 rintro (_ | _) h2
 refine qp J (qg J (qp J (qg J (qp J (qg J (qp J (qg J (qp J (qg J (hcall J J J (binds_c _ a.vars a.co (by omega)) ?_))))))))))
 rintro _ S1 ⟨rfl,hx1⟩
 have hK1:=hK.ext hx1
 refine qb ?_
 rintro (_ | _) h3
 refine qg J (pq2 J (qn (kq10 J) (kq2 J) (ecT J (er (qp J (qn (kq1 J) kn (eret (sqr (bqr (sqr ?_))))))))))
 rotate_left
 refine qg rfl (qp rfl (qp rfl (qk (kc rfl (kc rfl (kc rfl (kc rfl (kc rfl (kc rfl (kc rfl (kc rfl (kc rfl (kc rfl kn)))))))))) (kc rfl (kc rfl kn)) (sqn (ecF rfl (eskip (sqn (eseq (eseq (ereg (qp rfl (qp rfl (hia (y:=Xtor.enc x) rfl rfl (by omega) (by simp [hx]) rfl (qp rfl (qp rfl (qp rfl (qp rfl (qk (kc rfl (kc rfl (kc rfl (kc rfl (kc rfl (kc rfl (kc rfl (kc rfl (kc rfl (kc rfl (kc rfl kn))))))))))) (kc rfl (kc rfl kn)) (sqn (eblock ?_))))))))))))))))))))
 refine cbr_l2 a.vars a.co a.body.cs [.map i0,.map i1] x.args (by have hq1:(decide (a.vars.length=a.co.length) && distinctOk [] (a.vars.zip a.co))=true:=‹_›;simp at hq1 h2;omega) 0 (by omega) (hza x (Lmg hx)) ?_ ?_
 intro j2 hj
 refine bqx (sqn (eseq (ereg (hlda rfl rfl (lc rfl (lc rfl (ln rfl))) (qp rfl (qp rfl (qp rfl (qp rfl (hcall rfl rfl rfl (enter_c _ i0 i1 X A a.vars a.co (by have hq1:(decide (a.vars.length=a.co.length) && distinctOk [] (a.vars.zip a.co))=true:=‹_›;simp at hq1;omega) (by omega) hK1.ps) ?_)))))))))
 rintro _ S2 ⟨bs,ba,rfl,hE,hc2,hbs,hba⟩
 have hK2:=en_kv hK1 hE hc2
 have b:Bool:=false
 have left':=left
 have hcv:Chg (K3 k i0 i1) S2 S2:=Chg.refl _
 refine qp J (qn (kq9 J) (kq2 J) (er (pq3 J (hcall J J J (Sort_c _ _) ?_))))
 rintro _ _ ⟨rfl,hq⟩
 obtain rfl:=hq.symm
 refine qp J (qb ?_)
 rintro (_ | _) h4
 refine qp J (zq7 J (pq2 J (qn (kq9 J) (kq1 J) (er (qp J (hcall J J J (lv_c hK1 hE hc2 hbs hba hK2 hcv (by omega)) ?_))))))
 rintro _ S3 ⟨rfl,hK3,hc3⟩
 refine qn (kq8 J) (kq1 J) (er (pq2 J (qn (kq8 J) (kq1 J) (ecT J (er (qp J (qn (kq1 J) kn (eret (bqr (sqr ?_))))))))))
 rotate_left
 refine qp J (qg J (qp J (qg J (hlda J J (lq2 J) (qg J (qp J (qg J (hlda J J (lq5 J) (qg J (qp J (qg J (hadd J J (i64w (by omega)) (qg J (hcall J J J (H a (Lmg ha) _ k i0 i1 _ _ left (deep + 1) hK2 h0.1 h0.2 (by omega) (by omega)) ?_))))))))))))))
 rintro _ S2' ⟨b,left',rfl,hK2,hcv,q3,q4,q5,q6⟩
 refine qb ?_
 rintro (_ | _) h5
 refine pq2 J (qn (kq9 J) (kq1 J) (er (qp J (hcall J J J (lv_c hK1 hE hc2 hbs hba hK2 hcv (by omega)) ?_))))
 rintro _ S3 ⟨rfl,hK3,hc3⟩
 refine qn (kq8 J) (kq1 J) (er (pq2 J (qn (kq8 J) (kq1 J) (ecT J (er (qp J (qn (kq1 J) kn (eret (bqr (sqr ?_))))))))))
 rotate_left
 refine pq2 J (qn (kq9 J) (kq1 J) (er (qp J (hcall J J J (lv_c hK1 hE hc2 hbs hba hK2 hcv (by omega)) ?_))))
 rintro _ S3 ⟨rfl,hK3,hc3⟩
 refine qn (kq8 J) (kq1 J) (er (pq2 J (qn (kq8 J) (kq1 J) (ecF J (eskip (bqn (sqn (ereg (hadd J J (i64w (by omega)) (qp J (qk (kq7 J) (kq1 J) ?_)))))))))))
 have g1:(decide (a.vars.length=a.co.length) && distinctOk [] (a.vars.zip a.co))=true:=by assumption
 have g2:decide (sortOf a.body.op=2)=true:=by assumption
 have f2:b=true:=by first | assumption | simp_all
 subst f2
 have hv:=q5.1 rfl
 have hl':=q6 rfl
 have hz1:0 ≤ left':=by have:=hv.2.1;omega
 have hco:a.co=x.args.map (fun a=>a.co):=by simpa using hj
 simp only [Bae,Dte] at g1 g2
 have hall:=And.intro (show a.vars.length=x.args.length by have:=congrArg List.length hco;simp at this;omega) (And.intro hco (And.intro g1.2 (And.intro g2 hv)))
 exact cbr_l1 c l d X A hlen deep hdeep hza hzb H (i + 1) (by omega) hs left' ⟨hz1,by omega⟩ hK3
  (fun j S4 l4 h c4 e1 e2 e3=>hX j S4 l4 h (hx1.chg.trans (hc3.trans c4)) (by rw [hd,hx2];exact (brs_cons hall).2 (hl' ▸ e1)) (by rw [e2,hl',hd];simp only [szL];omega) e3)
  (fun S4 l4 h c4 e1 e2 e3=>hR S4 l4 h (hx1.chg.trans (hc3.trans c4)) e1 (by omega) (by rw [hd,hx2];exact fun q=>e3 (hl' ▸ (brs_cons hall).1 q)))
 intro hj
 refine bqr (sqr (bqr (sqr ?_)))
 rotate_left
 refine qp J (zq6 J (qp J (qn (kq10 J) (kq2 J) (ecT J (er (qp J (qn (kq1 J) kn (eret (sqr (bqr (sqr ?_)))))))))))
 rotate_left
 all_goals
  first
  | (refine hR _ left hK (Chg.refl _) (by omega) (by omega) fun h=>?_
     rw [hd,hx2] at h
     have q:=(brs_no h).1
     simp [q] at h2;done)
  | (refine hR _ left (hK.ext hx1) hx1.chg (by omega) (by omega) fun h=>?_
     rw [hd,hx2] at h
     have q:=brs_no h
     have e:a.vars.length=a.co.length:=by rw [q.2.1,List.length_map];exact q.1
     have g:(decide (a.vars.length=a.co.length) && distinctOk [] (a.vars.zip a.co))=false:=by assumption
     simp [e,q.2.2.1] at g;done)
  | (refine hR _ left (hK.ext hx1) hx1.chg (by omega) (by omega) fun h=>?_
     rw [hd,hx2] at h
     exact hj (by simpa using (brs_no h).2.1))
  | (refine hR _ left' hK3 (hx1.chg.trans hc3) q3 q4 fun h=>?_
     rw [hd,hx2] at h
     have q:=q5.2 (brs_no h).2.2.2.2
     simp_all;done)
  | (refine hR _ left hK3 (hx1.chg.trans hc3) (by omega) (by omega) fun h=>?_
     rw [hd,hx2] at h
     have q:=(brs_no h).2.2.2.1
     simp_all;done)
termination_by l.length - i
decreasing_by all_goals omega
theorem branches_c (s:Sg) (c:Core) (k i0 i1:Nat) (X A:Int → Bool) (left deep:Int) (nd:Node) (d:Decl) (hdl:c.decls.length ≤ 2 ^ 40) (hty:1 ≤ nd.ty ∧ nd.ty ≤ c.decls.length) (hd:c.decls[(nd.ty - 1).toNat]?=some d) (hza:∀ x ∈ d.xtors,x.args.length ≤ 2 ^ 40) (hz:nd.sz ≤ 2 ^ 40) (hdeep:0 ≤ deep ∧ deep ≤ 4000) (h0:0 ≤ left ∧ left ≤ 2 ^ 40) (hK:KV c k i0 i1 X A left s) (H:∀ b ∈ nd.brs,VC c b.body):HC p N112_ [.ptr k 0,.agg [.map i0,.map i1],.agg nd.cs,I deep] s (fun r s'=>VPost c k i0 i1 X A left s (BrsP c nd.brs d.xtors X A left deep) (szL (fun b=>nNodes b.body) nd.brs) r s'):=by
 refine hcf J f112_ J ?_
 simp only [chainOf]
 refine er (hbox (dq4 J) J (lq2 J) (hbox (dq5 J) J (lq5 J) (qp J (qn (kq4 J) (kq2 J) (er (pq3 J (hldo J hK.hk J ?_)))))))
 refine pq2 J (hsub J J (i64w (by omega)) ?_)
 refine hia (y:=Decl.enc d) rfl rfl (by omega) (by rw [Lgm,hd];rfl) rfl ?_
 refine pq3 J (qn (kq5 J) (kq2 J) (eseq (er (pq6 J (qb ?_)))))
 rintro (_ | _) h1
 refine qn (kq6 J) (kq2 J) (ecF J (eskip (sqn (eseq (er (pq4 J (qn (kq7 J) (kq1 J) (eblock ?_))))))))
 refine cbr_l1 c nd.brs d X A (by simp at h1;omega) deep hdeep hza (fun b hb=>by have:=Node.sz_br hb;omega) H 0 (by omega) (by have:=nd.sz_brs;omega) left h0 hK ?_ ?_
 intro j S1 l1 hK1 hc1 e1 e2 e3
 refine bqx (sqn (er (qp J (qn (kq1 J) kn (eret (fqr J ?_))))))
 rotate_left
 intro S1 l1 hK1 hc1 e1 e2 e3
 refine bqr (sqr (fqr J ?_))
 rotate_left
 refine qn (kq6 J) (kq2 J) (ecT J (er (qp J (qn (kq1 J) kn (eret (sqr (fqr J ?_)))))))
 rotate_left
 all_goals
  first
  | (refine ⟨false,left,rfl,hK,Chg.refl _,by omega,by omega,⟨fun h=>by simp at h,fun h=>?_⟩,fun h=>by simp at h⟩
     have:=vBs_len h.1
     simp at h1
     omega)
  | exact ⟨true,l1,rfl,hK1,hc1,by omega,by omega,⟨fun _=>by simpa using e1,fun _=>rfl⟩,fun _=>by simpa using e2⟩
  | exact ⟨false,l1,rfl,hK1,hc1,e1,e2,⟨fun h=>by simp at h,fun h=>absurd (by simpa using h) e3⟩,fun h=>by simp at h⟩
theorem KV.dec {c:Core} {k i0 i1:Nat} {X A:Int → Bool} {left l':Int} {S:Sg} (h:KV c k i0 i1 X A left S):KV c k i0 i1 X A l' (S.set k (.row [SL 3 (c.decls.map Decl.enc),SL 8 (c.funs.map CFun.enc),I l'])) :=
 ⟨set_ob,⟨by rw [set_ne (Ne.symm h.k0)];exact h.ps.h0,by rw [set_ne (Ne.symm h.k1)];exact h.ps.h1,h.ps.l0,h.ps.l1,h.ps.ne⟩,h.kl,h.k0,h.k1⟩
theorem head_nil {ds:List Decl} {fs:List CFun} {op n ty:Int} {want:List Int} {xs:List Xtor} (h:headOf ds fs op n ty=some (want,xs)) (h4:op ≠ 4) (h8:op ≠ 8):xs=[]:=by
 have key:∀ (cnd:Prop) [Decidable cnd] (w:List Int),(if cnd then some (w,([]:List Xtor)) else none)=some (want,xs) → xs=[]:=by
  intro cnd _ w h
  split at h
  ·simp only [Oie,Pie] at h;exact h.2.symm
  cases h
 have hm:¬ (op=4 ∨ op=8):=by omega
 unfold headOf at h
 by_cases c0:op=0 ∨ op=5
 ·rw [if_pos c0] at h;exact key _ _ h
 rw [if_neg c0] at h
 by_cases c1:op=1
 ·rw [if_pos c1] at h;exact key _ _ h
 rw [if_neg c1] at h
 by_cases c2:op=2 ∨ op=6
 ·rw [if_pos c2] at h
  split at h
  ·split at h
   ·simp only [Option.map_eq_some_iff,Pie] at h;obtain ⟨_,_,_,h⟩:=h;exact h.symm
   cases h
  cases h
 rw [if_neg c2] at h
 by_cases c3:op=3 ∨ op=7
 ·rw [if_pos c3] at h;exact key _ _ h
 rw [if_neg c3,if_neg hm] at h
 by_cases c9:op=9
 ·rw [if_pos c9] at h;exact key _ _ h
 rw [if_neg c9] at h
 by_cases c10:op=10
 ·rw [if_pos c10] at h;exact key _ _ h
 rw [if_neg c10] at h
 by_cases c11:op=11
 ·rw [if_pos c11] at h;exact key _ _ h
 rw [if_neg c11] at h
 by_cases c12:op=12
 ·rw [if_pos c12] at h;exact key _ _ h
 rw [if_neg c12] at h
 by_cases c13:op=13
 ·rw [if_pos c13] at h
  split at h
  ·simp only [Option.map_eq_some_iff,Pie] at h;obtain ⟨_,_,_,h⟩:=h;exact h.symm
  cases h
 rw [if_neg c13] at h
 by_cases c14:op=14
 ·rw [if_pos c14] at h;exact key _ _ h
 rw [if_neg c14] at h
 cases h
theorem vN_some {ds:List Decl} {fs:List CFun} {a:Node} {X A:Int → Bool} (h:vN ds fs a X A=true):∃ want xs,headOf ds fs a.op a.n a.ty=some (want,xs) ∧ vNs ds fs a.args want (if a.op=7 then addV X a.n else X) (if a.op=3 then addV A a.n else A)=true ∧ vBs ds fs a.brs xs X A=true ∧ (if a.op=0 then X a.n else if a.op=5 then A a.n else true)=true:=by
 rw [vN_eq] at h
 split at h
 ·cases h
 rename_i want xs hh
 simp only [Bae] at h
 exact ⟨want,xs,hh,h.1.2,h.2,h.1.1⟩
theorem vN_none {ds:List Decl} {fs:List CFun} {a:Node} {X A:Int → Bool} (e:headOf ds fs a.op a.n a.ty=none):¬ vN ds fs a X A=true:=by
 rw [vN_eq,e]
 simp
theorem nNodes_pos (a:Node):1 ≤ nNodes a:=by rw [nNodes_eq];split <;> omega
theorem nDepth_pos (a:Node):1 ≤ nDepth a:=by rw [nDepth_eq];split <;> omega
abbrev VPs (c:Core) (nd:Node) (X A:Int → Bool) (left deep:Int):Prop:=vN c.decls c.funs nd X A=true ∧ (nNodes nd:Int) ≤ left ∧ deep + nDepth nd ≤ 4001
theorem head_xtorAt {ds:List Decl} {fs:List CFun} {op n ty:Int} (h:op=2 ∨ op=6):headOf ds fs op n ty=(xtorAt ds ty n (decide (op=6))).map fun x=>(x.args.map fun a=>sideOf a.co,[]):=by
 rw [head_xtor (decide_eq_true h),xtorAt]
 split
 ·rename_i d hd
  try rw [hd]
  try simp only []
  split <;> rfl
 rename_i hd
 try rw [hd]
 rfl
section
variable {c:Core} {k i0 i1:Nat} {X A:Int → Bool} {left deep left':Int} {nd:Node} {s S1 S2:Sg} {b:Bool} {want:List Int}
theorem no_post (h0:0 ≤ left) (hK1:KV c k i0 i1 X A (left - 1) S1) (hc1:Chg (K3 k i0 i1) s S1) (hn:¬ VPs c nd X A left deep):VPost c k i0 i1 X A left s (VPs c nd X A left deep) (nNodes nd) [B false] S1 :=
 ⟨false,left - 1,rfl,hK1,hc1,by omega,by omega,⟨fun h=>by simp at h,fun h=>absurd h hn⟩,fun h=>by simp at h⟩
theorem none_post (h0:0 ≤ left) (hK1:KV c k i0 i1 X A (left - 1) S1) (hc1:Chg (K3 k i0 i1) s S1) (e:headOf c.decls c.funs nd.op nd.n nd.ty=none):VPost c k i0 i1 X A left s (VPs c nd X A left deep) (nNodes nd) [B false] S1 :=
 no_post h0 hK1 hc1 fun h=>vN_none e h.1
theorem sorts_P (hl:leafOp nd.op=false) (h05:nd.op ≠ 0 ∧ nd.op ≠ 5) (hb:nd.brs=[]) (hh:headOf c.decls c.funs nd.op nd.n nd.ty=some (want,[])) :
 VPs c nd X A left deep ↔ SortsP c nd.args want (if nd.op=7 then addV X nd.n else X) (if nd.op=3 then addV A nd.n else A) (left - 1) deep:=by
 have e:vN c.decls c.funs nd X A=vNs c.decls c.funs nd.args want (if nd.op=7 then addV X nd.n else X) (if nd.op=3 then addV A nd.n else A):=by
  rw [vN_eq,hh]
  simp only [hb,if_neg h05.1,if_neg h05.2,vBs,Bool.and_true,Bta]
 simp only [VPs,SortsP,e]
 rw [nNodes_eq,nDepth_eq,hl,hb]
 simp only [szL,mxL,Bool.false_eq_true,if_false]
 constructor
 ·rintro ⟨a1,a2,a3⟩;exact ⟨a1,by omega,by omega⟩
 rintro ⟨a1,a2,a3⟩;exact ⟨a1,by omega,by omega⟩
theorem nNodes_sorts (hl:leafOp nd.op=false) (hb:nd.brs=[]):nNodes nd=1 + szL nNodes nd.args:=by
 rw [nNodes_eq,hl,hb]
 simp [szL]
theorem sorts_post (hl:leafOp nd.op=false) (h05:nd.op ≠ 0 ∧ nd.op ≠ 5) (h37:nd.op ≠ 3 ∧ nd.op ≠ 7) (hb:nd.brs=[]) (hh:headOf c.decls c.funs nd.op nd.n nd.ty=some (want,[])) (hc1:Chg (K3 k i0 i1) s S1)
 (hP:KV c k i0 i1 X A left' S2 ∧ Chg (K3 k i0 i1) S1 S2 ∧ -1 ≤ left' ∧ left' ≤ left - 1 ∧ (b=true ↔ SortsP c nd.args want X A (left - 1) deep) ∧ (b=true → left'=left - 1 - szL nNodes nd.args)):VPost c k i0 i1 X A left s (VPs c nd X A left deep) (nNodes nd) [B b] S2:=by
 obtain ⟨p1,p2,p3,p4,p5,p6⟩:=hP
 refine ⟨b,left',rfl,p1,hc1.trans p2,p3,by omega,?_,fun h=>?_⟩
 ·rw [p5,sorts_P hl h05 hb hh,if_neg h37.1,if_neg h37.2]
 rw [p6 h,nNodes_sorts hl hb];omega
theorem mu_post (h37:nd.op=3 ∨ nd.op=7) (hb:nd.brs=[]) (hh:headOf c.decls c.funs nd.op nd.n nd.ty=some ([2],[])) {S3:Sg} (hK3:KV c k i0 i1 X A left' S3) (hc:Chg (K3 k i0 i1) s S3) (p3:-1 ≤ left') (p4:left' ≤ left - 1)
 (p5:b=true ↔ SortsP c nd.args [2] (addsV false X [nd.n] [decide (nd.op=3)]) (addsV true A [nd.n] [decide (nd.op=3)]) (left - 1) deep) (p6:b=true → left'=left - 1 - szL nNodes nd.args):VPost c k i0 i1 X A left s (VPs c nd X A left deep) (nNodes nd) [B b] S3:=by
 have hl:leafOp nd.op=false:=by rcases h37 with h | h <;> rw [h] <;> rfl
 have h05:nd.op ≠ 0 ∧ nd.op ≠ 5:=by omega
 have e1:addsV false X [nd.n] [decide (nd.op=3)]=if nd.op=7 then addV X nd.n else X:=by
  rcases h37 with h | h
  ·simp [addsV,h]
  simp [addsV,h]
 have e2:addsV true A [nd.n] [decide (nd.op=3)]=if nd.op=3 then addV A nd.n else A:=by
  rcases h37 with h | h
  ·simp [addsV,h]
  simp [addsV,h]
 refine ⟨b,left',rfl,hK3,hc,p3,by omega,?_,fun h=>?_⟩
 ·rw [p5,sorts_P hl h05 hb hh,e1,e2]
 rw [p6 h,nNodes_sorts hl hb];omega
theorem brs_post {d:Decl} (h48:nd.op=4 ∨ nd.op=8) (ha:nd.args=[]) (hh:headOf c.decls c.funs nd.op nd.n nd.ty=some ([],d.xtors)) (hc1:Chg (K3 k i0 i1) s S1)
 (hP:KV c k i0 i1 X A left' S2 ∧ Chg (K3 k i0 i1) S1 S2 ∧ -1 ≤ left' ∧ left' ≤ left - 1 ∧ (b=true ↔ BrsP c nd.brs d.xtors X A (left - 1) deep) ∧ (b=true → left'=left - 1 - szL (fun b=>nNodes b.body) nd.brs)):VPost c k i0 i1 X A left s (VPs c nd X A left deep) (nNodes nd) [B b] S2:=by
 obtain ⟨p1,p2,p3,p4,p5,p6⟩:=hP
 have hl:leafOp nd.op=false:=by rcases h48 with h | h <;> rw [h] <;> rfl
 have e:vN c.decls c.funs nd X A=vBs c.decls c.funs nd.brs d.xtors X A:=by
  rw [vN_eq,hh]
  simp only [ha,vNs,Bool.and_true,Bta]
  rw [if_neg (by omega),if_neg (by omega),Bta]
 refine ⟨b,left',rfl,p1,hc1.trans p2,p3,by omega,?_,fun h=>?_⟩
 ·rw [p5]
  simp only [VPs,BrsP,e]
  rw [nNodes_eq,nDepth_eq,hl,ha]
  simp only [szL,mxL,Bool.false_eq_true,if_false]
  constructor
  ·rintro ⟨a1,a2,a3⟩;exact ⟨a1,by omega,by omega⟩
  rintro ⟨a1,a2,a3⟩;exact ⟨a1,by omega,by omega⟩
 rw [p6 h,nNodes_eq,hl,ha];simp [szL];omega
theorem leaf_post (hl:leafOp nd.op=true) (h0:0 ≤ left - 1) (hd:deep ≤ 4000) (hK1:KV c k i0 i1 X A (left - 1) S1) (hc1:Chg (K3 k i0 i1) s S1) (e:b=vN c.decls c.funs nd X A):VPost c k i0 i1 X A left s (VPs c nd X A left deep) (nNodes nd) [B b] S1:=by
 have n1:nNodes nd=1:=by rw [nNodes_eq,if_pos hl]
 have d1:nDepth nd=1:=by rw [nDepth_eq,if_pos hl]
 refine ⟨b,left - 1,rfl,hK1,hc1,by omega,by omega,?_,fun _=>by rw [n1];omega⟩
 rw [e]
 simp only [VPs,n1,d1]
 exact ⟨fun h=>⟨h,by omega,by omega⟩,fun h=>h.1⟩
end
theorem vNs_nil {ds:List Decl} {fs:List CFun} {X A:Int → Bool} {l:List Node}:vNs ds fs l [] X A=decide (l.length=0):=by
 cases l with
 | nil=>rw [vNs];rfl
 | cons a l=>simp [vNs]
theorem vBs_nil {ds:List Decl} {fs:List CFun} {X A:Int → Bool}:vBs ds fs [] [] X A=true:=by rw [vBs]
theorem valid_c0 (c:Core) (hc:CoreSz c) (nd:Node) (hz:nd.sz ≤ 2 ^ 40) (H1:∀ b ∈ nd.args,VC c b) (H2:∀ b ∈ nd.brs,VC c b.body) (s:Sg) (k i0 i1:Nat) (X A:Int → Bool) (left deep:Int) (hK:KV c k i0 i1 X A left s) (h0:0 ≤ left) (h00:left ≤ 2 ^ 40) (hd1:0 ≤ deep) (hd2:deep ≤ 4001):HC p N63_ [.ptr k 0,.agg [.map i0,.map i1],.agg nd.cs,I deep] s (fun r s'=>VPost c k i0 i1 X A left s (vN c.decls c.funs nd X A=true ∧ (nNodes nd:Int) ≤ left ∧ deep + nDepth nd ≤ 4001) (nNodes nd) r s'):=by
 have hza:nd.args.length ≤ 2 ^ 40:=by have:=nd.sz_args;omega
 refine hcf J f63_ J ?_
 simp only [chainOf]
 refine er (hbox (dq4 J) J (lq2 J) (hbox (dq5 J) J (lq5 J) (qp J (qn (kq4 J) (kq2 J) (er (pq3 J (hldo J hK.hk J ?_)))))))
 refine hsub rfl rfl (i64w (by omega)) (qp rfl (qp rfl (hsto (cs':=[SL 3 (c.decls.map Decl.enc),SL 8 (c.funs.map CFun.enc),I (left - 1)]) rfl rfl hK.hk rfl (Nlb rfl) (by simp) (by rfl) ?_)))
 have hK1:=hK.dec (l':=left - 1)
 have hc1:Chg (K3 k i0 i1) s (s.set k (.row [SL 3 (c.decls.map Decl.enc),SL 8 (c.funs.map CFun.enc),I (left - 1)])):=(Chg.refl s).set fun _=>.inl rfl
 generalize s.set k (.row [SL 3 (c.decls.map Decl.enc),SL 8 (c.funs.map CFun.enc),I (left - 1)])=S1 at hK1 hc1 ⊢
 refine qn (kq4 J) (kq2 J) (eseq (er (pq3 J (hldo J hK1.hk J ?_))))
 refine qp J (qb ?_)
 rintro (_ | _) h1
 refine qp J (qg J (qp J (qg J (qp J (qb ?_)))))
 rintro (_ | _) h2
 refine qp J (qn (kq5 J) (kq2 J) (ecF J (eskip (sqn (eseq (eseq ?_))))))
 refine ejoin 43 (decide (nd.op ≠ 4) && decide (nd.op ≠ 8) && decide (nd.brs.length ≠ 0)) (k:=[0,3,5,6,43]) (kl:=[5,6]) (kc rfl (kc rfl (kc rfl (kc rfl (kc rfl kn))))) (kc rfl (kc rfl kn)) ?_ ?_
 refine ereg (pq3 J (qb ?_))
 rintro (_ | _) h3
 refine qp J (zq3 J (pq2 J (zq4 J (qp J (qk (kq5 J) (kq2 J) ?_)))))
 exact ⟨rfl,by rw [show (decide (nd.op ≠ 4) && decide (nd.op ≠ 8) && decide (nd.brs.length ≠ 0))=false from by (simp_all;try omega)]⟩
 refine qp J (qg J (qp J (qg J (qp J (qg J (qp J (qb ?_)))))))
 rintro (_ | _) h4
 refine pq2 J (zq4 J (qp J (qk (kq5 J) (kq2 J) ?_)))
 exact ⟨rfl,by rw [show (decide (nd.op ≠ 4) && decide (nd.op ≠ 8) && decide (nd.brs.length ≠ 0))=false from by (simp_all;try omega)]⟩
 refine pq2 J (qg J (qp J (qg J (qp J (qg J (qp J (qg J (qp J (qb ?_)))))))))
 rintro (_ | _) h5
 refine qp J (qk (kq5 J) (kq2 J) ?_)
 exact ⟨rfl,by rw [show (decide (nd.op ≠ 4) && decide (nd.op ≠ 8) && decide (nd.brs.length ≠ 0))=false from by (simp_all;try omega)]⟩
 refine qp J (qk (kq5 J) (kq2 J) ?_)
 exact ⟨rfl,by rw [show (decide (nd.op ≠ 4) && decide (nd.op ≠ 8) && decide (nd.brs.length ≠ 0))=true from by (simp_all;try omega)]⟩
 refine sqn ?_
 refine ecS J ?_ ?_
 intro h6
 refine er (qp J (qn (kq1 J) kn (eret (sqr (fqr J (no_post h0 hK1 hc1 fun h=>?_))))))
 have g:(decide (nd.op ≠ 4) && decide (nd.op ≠ 8) && decide (nd.brs.length ≠ 0))=true:=by assumption
 simp only [Bae,Dte] at g
 obtain ⟨want,xs,e1,e2,e3,_⟩:=vN_some h.1
 have:=vBs_len e3
 rw [head_nil e1 g.1.1 g.1.2] at this
 exact g.2 this
 intro h6
 refine eskip (sqn (eseq ?_))
 refine ejoin 9 (typedOk c.decls nd.ty) (k:=[0,3,5,6,9]) (kl:=[5,6]) (kc rfl (kc rfl (kc rfl (kc rfl (kc rfl kn))))) (kc rfl (kc rfl kn)) ?_ ?_
 refine ereg (pq3 J (qb ?_))
 rintro (_ | _) h7
 refine qp J (zq8 J (pq2 J (qk (kq5 J) (kq2 J) ?_)))
 exact ⟨rfl,by rw [show (typedOk c.decls nd.ty)=false from by (simp_all [typedOk];try omega)]⟩
 refine qp J (qg J (qp J (qg J (qp J (qg J (qp J (qg J (qp J (qg J (qp J (qg J (hldo J hK1.hk J ?_))))))))))))
 refine qg J (qp J (qg J (qp J (qb ?_))))
 rintro (_ | _) h8
 refine pq2 J (qk (kq5 J) (kq2 J) ?_)
 exact ⟨rfl,by rw [show (typedOk c.decls nd.ty)=false from by (simp_all [typedOk];try omega)]⟩
 refine pq2 J (qk (kq5 J) (kq2 J) ?_)
 exact ⟨rfl,by rw [show (typedOk c.decls nd.ty)=true from by (simp_all [typedOk];try omega)]⟩
 refine sqn (eseq (er (pq2 J (qn (kq6 J) (kq2 J) (eblock (eseq ?_))))))
 refine ejoin 59 (decide (nd.op=0 ∨ nd.op=5)) (k:=[0,3,5,6,9,58,59]) (kl:=[5,6]) (kc rfl (kc rfl (kc rfl (kc rfl (kc rfl (kc rfl (kc rfl kn))))))) (kc rfl (kc rfl kn)) ?_ ?_
 refine er (qp J (qb ?_))
 rintro (_ | _) h9
 refine qp J (qn (kq7 J) (kq2 J) (ecF J (ereg (qp J (qb ?_)))))
 rintro (_ | _) h10
 refine qp J (qk (kq7 J) (kq2 J) ?_)
 exact ⟨rfl,by rw [show (decide (nd.op=0 ∨ nd.op=5))=false from by (simp_all;try omega)]⟩
 refine qp J (qk (kq7 J) (kq2 J) ?_)
 exact ⟨rfl,by rw [show (decide (nd.op=0 ∨ nd.op=5))=true from by (simp_all;try omega)]⟩
 refine qp J (qn (kq7 J) (kq2 J) (ecT J (eskip ?_)))
 exact ⟨rfl,by rw [show (decide (nd.op=0 ∨ nd.op=5))=true from by (simp_all;try omega)]⟩
 refine sqn ?_
 refine ecS J ?_ ?_
 intro h11
 refine er (pq3 J (qb ?_))
 rintro (_ | _) h12
 refine qp J (zq4 J (pq2 J (zq3 J (pq2 J (zq8 J (pq2 J (qn (kq1 J) kn ?_)))))))
 refine eret (bqr (sqr (fqr J ?_)))
 have ho:nd.op=0 ∨ nd.op=5:=Odt ‹_›
 have hl:leafOp nd.op=true:=by rcases ho with h | h <;> rw [h] <;> rfl
 have hb0:nd.brs=[]:=by
  have g:(decide (nd.op ≠ 4) && decide (nd.op ≠ 8) && decide (nd.brs.length ≠ 0))=false:=by assumption
  have g2:nd.op=4 ∨ nd.op=8 ∨ nd.brs.length=0:=by simpa [Decidable.or_iff_not_imp_left] using g
  exact Lnl (by omega)
 have hhd:=head_var (ds:=c.decls) (fs:=c.funs) (n:=nd.n) (ty:=nd.ty) (decide_eq_true ho)
 have hl0:0 ≤ left - 1:=by have g:decide (left - 1 < 0)=false:=‹_›;simpa using g
 have hd0:deep ≤ 4000:=by have g:decide (4000 < deep)=false:=‹_›;simpa using g
 first
 | exact none_post h0 hK1 hc1 (hhd.trans (if_neg (fun q=>by first | exact absurd q.1 (of_decide_eq_false ‹_›) | exact absurd q.1 (Bool.eq_false_iff.1 ‹_›) | exact absurd q.2 (of_decide_eq_false ‹_›) | exact absurd q.2 (Bool.eq_false_iff.1 ‹_›))))
 | (refine no_post h0 hK1 hc1 fun h=>?_
    have g:decide (((nd.args.map Node.enc).length:Int)=0)=false:=by assumption
    obtain ⟨want,xs,e1,e2,_⟩:=vN_some h.1
    rw [hhd] at e1
    split at e1
    ·simp only [Oie,Pie] at e1
     obtain ⟨rfl,rfl⟩:=e1
     have:=vNs_len e2
     simp at this
     simp [this] at g
    cases e1)
 | (refine leaf_post hl hl0 hd0 hK1 hc1 ?_
    have g:decide (((nd.args.map Node.enc).length:Int)=0)=true:=by assumption
    have ha:nd.args=[]:=by simp at g;first | exact g | exact Lnl (by omega)
    have hh2:=hhd.trans (if_pos ⟨Odt ‹_›,by assumption⟩)
    rw [vN_eq,hh2,ha,hb0]
    simp only [vNs,vBs,Bool.and_true]
    rcases ho with h | h
    ·simp [h]
    simp [h])
 refine qp J (qg J (qp J (qg J (qp J (qg J (qp J (qg J (qp J (qb ?_)))))))))
 rintro (_ | _) h13
 refine pq2 J (zq3 J (pq2 J (zq8 J (pq2 J (qn (kq1 J) kn (eret (bqr (sqr (fqr J ?_)))))))))
 have ho:nd.op=0 ∨ nd.op=5:=Odt ‹_›
 have hl:leafOp nd.op=true:=by rcases ho with h | h <;> rw [h] <;> rfl
 have hb0:nd.brs=[]:=by
  have g:(decide (nd.op ≠ 4) && decide (nd.op ≠ 8) && decide (nd.brs.length ≠ 0))=false:=by assumption
  have g2:nd.op=4 ∨ nd.op=8 ∨ nd.brs.length=0:=by simpa [Decidable.or_iff_not_imp_left] using g
  exact Lnl (by omega)
 have hhd:=head_var (ds:=c.decls) (fs:=c.funs) (n:=nd.n) (ty:=nd.ty) (decide_eq_true ho)
 have hl0:0 ≤ left - 1:=by have g:decide (left - 1 < 0)=false:=‹_›;simpa using g
 have hd0:deep ≤ 4000:=by have g:decide (4000 < deep)=false:=‹_›;simpa using g
 first
 | exact none_post h0 hK1 hc1 (hhd.trans (if_neg (fun q=>by first | exact absurd q.1 (of_decide_eq_false ‹_›) | exact absurd q.1 (Bool.eq_false_iff.1 ‹_›) | exact absurd q.2 (of_decide_eq_false ‹_›) | exact absurd q.2 (Bool.eq_false_iff.1 ‹_›))))
 | (refine no_post h0 hK1 hc1 fun h=>?_
    have g:decide (((nd.args.map Node.enc).length:Int)=0)=false:=by assumption
    obtain ⟨want,xs,e1,e2,_⟩:=vN_some h.1
    rw [hhd] at e1
    split at e1
    ·simp only [Oie,Pie] at e1
     obtain ⟨rfl,rfl⟩:=e1
     have:=vNs_len e2
     simp at this
     simp [this] at g
    cases e1)
 | (refine leaf_post hl hl0 hd0 hK1 hc1 ?_
    have g:decide (((nd.args.map Node.enc).length:Int)=0)=true:=by assumption
    have ha:nd.args=[]:=by simp at g;first | exact g | exact Lnl (by omega)
    have hh2:=hhd.trans (if_pos ⟨Odt ‹_›,by assumption⟩)
    rw [vN_eq,hh2,ha,hb0]
    simp only [vNs,vBs,Bool.and_true]
    rcases ho with h | h
    ·simp [h]
    simp [h])
 refine pq2 J (qg J (qp J (qg J (qp J (qg J (hcall J J J (number_c _ _) ?_))))))
 rintro _ _ ⟨rfl,hq⟩
 obtain rfl:=hq.symm
 refine qb ?_
 rintro (_ | _) h14
 refine pq2 J (zq8 J (pq2 J (qn (kq1 J) kn (eret (bqr (sqr (fqr J ?_)))))))
 have ho:nd.op=0 ∨ nd.op=5:=Odt ‹_›
 have hl:leafOp nd.op=true:=by rcases ho with h | h <;> rw [h] <;> rfl
 have hb0:nd.brs=[]:=by
  have g:(decide (nd.op ≠ 4) && decide (nd.op ≠ 8) && decide (nd.brs.length ≠ 0))=false:=by assumption
  have g2:nd.op=4 ∨ nd.op=8 ∨ nd.brs.length=0:=by simpa [Decidable.or_iff_not_imp_left] using g
  exact Lnl (by omega)
 have hhd:=head_var (ds:=c.decls) (fs:=c.funs) (n:=nd.n) (ty:=nd.ty) (decide_eq_true ho)
 have hl0:0 ≤ left - 1:=by have g:decide (left - 1 < 0)=false:=‹_›;simpa using g
 have hd0:deep ≤ 4000:=by have g:decide (4000 < deep)=false:=‹_›;simpa using g
 first
 | exact none_post h0 hK1 hc1 (hhd.trans (if_neg (fun q=>by first | exact absurd q.1 (of_decide_eq_false ‹_›) | exact absurd q.1 (Bool.eq_false_iff.1 ‹_›) | exact absurd q.2 (of_decide_eq_false ‹_›) | exact absurd q.2 (Bool.eq_false_iff.1 ‹_›))))
 | (refine no_post h0 hK1 hc1 fun h=>?_
    have g:decide (((nd.args.map Node.enc).length:Int)=0)=false:=by assumption
    obtain ⟨want,xs,e1,e2,_⟩:=vN_some h.1
    rw [hhd] at e1
    split at e1
    ·simp only [Oie,Pie] at e1
     obtain ⟨rfl,rfl⟩:=e1
     have:=vNs_len e2
     simp at this
     simp [this] at g
    cases e1)
 | (refine leaf_post hl hl0 hd0 hK1 hc1 ?_
    have g:decide (((nd.args.map Node.enc).length:Int)=0)=true:=by assumption
    have ha:nd.args=[]:=by simp at g;first | exact g | exact Lnl (by omega)
    have hh2:=hhd.trans (if_pos ⟨Odt ‹_›,by assumption⟩)
    rw [vN_eq,hh2,ha,hb0]
    simp only [vNs,vBs,Bool.and_true]
    rcases ho with h | h
    ·simp [h]
    simp [h])
 refine pq2 J (qg J (qp J (qg J (qp J (qg J (hcall J J J (Sort_c _ _) ?_))))))
 rintro _ _ ⟨rfl,hq⟩
 obtain rfl:=hq.symm
 refine qg J ?_
 have hso:sortOf nd.op=sideOf (decide (nd.op=5)):=by
  have g:nd.op=0 ∨ nd.op=5:=Odt ‹_›
  rcases g with g | g <;> rw [g] <;> rfl
 refine qp (t:=.loc 5 (0 + (sideOf (decide (nd.op=5))).toNat * 1)) (by rw [hso];cases decide (nd.op=5) <;> rfl) ?_
 refine qg J ?_
 refine qp (t:=.val (.map (if decide (nd.op=5) then i1 else i0))) (by cases decide (nd.op=5) <;> rfl) ?_
 refine qg rfl (qp rfl (qg rfl (qp rfl (qg rfl (hlk (m:=setM (if decide (nd.op=5) then A else X)) rfl rfl rfl (hK1.ps.at _) ?_)))))
 rw [setM_get]
 refine pq2 J (qn (kq1 J) kn (eret (bqr (sqr (fqr J ?_)))))
 have ho:nd.op=0 ∨ nd.op=5:=Odt ‹_›
 have hl:leafOp nd.op=true:=by rcases ho with h | h <;> rw [h] <;> rfl
 have hb0:nd.brs=[]:=by
  have g:(decide (nd.op ≠ 4) && decide (nd.op ≠ 8) && decide (nd.brs.length ≠ 0))=false:=by assumption
  have g2:nd.op=4 ∨ nd.op=8 ∨ nd.brs.length=0:=by simpa [Decidable.or_iff_not_imp_left] using g
  exact Lnl (by omega)
 have hhd:=head_var (ds:=c.decls) (fs:=c.funs) (n:=nd.n) (ty:=nd.ty) (decide_eq_true ho)
 have hl0:0 ≤ left - 1:=by have g:decide (left - 1 < 0)=false:=‹_›;simpa using g
 have hd0:deep ≤ 4000:=by have g:decide (4000 < deep)=false:=‹_›;simpa using g
 first
 | exact none_post h0 hK1 hc1 (hhd.trans (if_neg (fun q=>by first | exact absurd q.1 (of_decide_eq_false ‹_›) | exact absurd q.1 (Bool.eq_false_iff.1 ‹_›) | exact absurd q.2 (of_decide_eq_false ‹_›) | exact absurd q.2 (Bool.eq_false_iff.1 ‹_›))))
 | (refine no_post h0 hK1 hc1 fun h=>?_
    have g:decide (((nd.args.map Node.enc).length:Int)=0)=false:=by assumption
    obtain ⟨want,xs,e1,e2,_⟩:=vN_some h.1
    rw [hhd] at e1
    split at e1
    ·simp only [Oie,Pie] at e1
     obtain ⟨rfl,rfl⟩:=e1
     have:=vNs_len e2
     simp at this
     simp [this] at g
    cases e1)
 | (refine leaf_post hl hl0 hd0 hK1 hc1 ?_
    have g:decide (((nd.args.map Node.enc).length:Int)=0)=true:=by assumption
    have ha:nd.args=[]:=by simp at g;first | exact g | exact Lnl (by omega)
    have hh2:=hhd.trans (if_pos ⟨Odt ‹_›,by assumption⟩)
    rw [vN_eq,hh2,ha,hb0]
    simp only [vNs,vBs,Bool.and_true]
    rcases ho with h | h
    ·simp [h]
    simp [h])
 intro h11
 refine er (qp J (qb ?_))
 rintro (_ | _) h15
 refine qp J (qn (kq7 J) (kq2 J) (ecF J (eseq ?_)))
 refine ejoin 97 (decide (nd.op=2 ∨ nd.op=6)) (k:=[0,3,5,6,9,58,97]) (kl:=[5,6]) (kc rfl (kc rfl (kc rfl (kc rfl (kc rfl (kc rfl (kc rfl kn))))))) (kc rfl (kc rfl kn)) ?_ ?_
 refine er (qp J (qb ?_))
 rintro (_ | _) h16
 refine qp J (qn (kq7 J) (kq2 J) (ecF J (ereg (qp J (qb ?_)))))
 rintro (_ | _) h17
 refine qp J (qk (kq7 J) (kq2 J) ?_)
 exact ⟨rfl,by rw [show (decide (nd.op=2 ∨ nd.op=6))=false from by (simp_all;try omega)]⟩
 refine qp J (qk (kq7 J) (kq2 J) ?_)
 exact ⟨rfl,by rw [show (decide (nd.op=2 ∨ nd.op=6))=true from by (simp_all;try omega)]⟩
 refine qp J (qn (kq7 J) (kq2 J) (ecT J (eskip ?_)))
 exact ⟨rfl,by rw [show (decide (nd.op=2 ∨ nd.op=6))=true from by (simp_all;try omega)]⟩
 refine sqn ?_
 refine ecS J ?_ ?_
 intro h18
 refine er (pq6 J (pq2 J (hcall J J J (xtor_c _ c k (left - 1) nd.ty nd.n (decide (nd.op=6)) hc.dl hK1.hk) ?_)))
 rintro _ _ ⟨hq,x,ok,rfl,hx⟩
 obtain rfl:=hq.symm
 refine pq3 J (qb ?_)
 rintro (_ | _) h19
 refine hal (dc (dc (dc (dq16 J) J) J) J) (hstl J J J J (Nlb J) (lq2 J) (qp J (qn (kq6 J) (kq3 J) (er (pq2 J (zq8 J (pq2 J (qn (kq1 J) kn (eret (bqr (sqr ?_)))))))))))
 refine fqr J ?_
 have ho:nd.op=2 ∨ nd.op=6:=Odt ‹_›
 have hl:leafOp nd.op=false:=by rcases ho with h | h <;> rw [h] <;> rfl
 have hb0:nd.brs=[]:=by
  have g:(decide (nd.op ≠ 4) && decide (nd.op ≠ 8) && decide (nd.brs.length ≠ 0))=false:=by assumption
  have g2:nd.op=4 ∨ nd.op=8 ∨ nd.brs.length=0:=by simpa [Decidable.or_iff_not_imp_left] using g
  exact Lnl (by omega)
 have hhd:=head_xtorAt (ds:=c.decls) (fs:=c.funs) (n:=nd.n) (ty:=nd.ty) ho
 rw [hx] at hhd
 first
 | (have g:ok=true:=by assumption
    subst g
    exact sorts_post hl (by omega) (by omega) hb0 hhd hc1 hP)
 | (have g:ok=false:=by assumption
    subst g
    exact none_post h0 hK1 hc1 hhd)
 refine hal (dc (dc (dc (dq16 J) J) J) J) (hstl J J J J (Nlb J) (lq2 J) (qp J (qn (kq6 J) (kq3 J) (er (pq2 J (qg J (qp J (qg J (hlda J J (lq2 J) (qg J (qp J (qg J (qp J (qg J (qp J (qg J (qp J (qg J (qp J (qg J ?_))))))))))))))))))))
 refine hcall rfl rfl rfl (args_cc _ c k i0 i1 X A (left - 1) deep nd.args x.args hza (by
  have g:ok=true:=by assumption
  rw [g,if_pos rfl,xtorAt] at hx
  split at hx
  ·rename_i d hd
   split at hx
   ·have hbd:=declAt_bounds hd
    rw [declAt,if_pos hbd.1] at hd
    exact hc.xa d (Lmg hd) x (Lmg hx)
   cases hx
  cases hx) ⟨hd1,by have g:decide (4000 < deep)=false:=‹_›;simp at g;omega⟩ ⟨by have g:decide (left - 1 < 0)=false:=‹_›;simp at g;omega,by omega⟩ hK1 H1) ?_
 rintro _ S2 ⟨b,left',rfl,hP⟩
 refine pq2 J (qn (kq1 J) kn (eret (bqr (sqr (fqr J ?_)))))
 have ho:nd.op=2 ∨ nd.op=6:=Odt ‹_›
 have hl:leafOp nd.op=false:=by rcases ho with h | h <;> rw [h] <;> rfl
 have hb0:nd.brs=[]:=by
  have g:(decide (nd.op ≠ 4) && decide (nd.op ≠ 8) && decide (nd.brs.length ≠ 0))=false:=by assumption
  have g2:nd.op=4 ∨ nd.op=8 ∨ nd.brs.length=0:=by simpa [Decidable.or_iff_not_imp_left] using g
  exact Lnl (by omega)
 have hhd:=head_xtorAt (ds:=c.decls) (fs:=c.funs) (n:=nd.n) (ty:=nd.ty) ho
 rw [hx] at hhd
 first
 | (have g:ok=true:=by assumption
    subst g
    exact sorts_post hl (by omega) (by omega) hb0 hhd hc1 hP)
 | (have g:ok=false:=by assumption
    subst g
    exact none_post h0 hK1 hc1 hhd)
 intro h18
 refine eseq ?_
 refine ejoin 123 (decide (nd.op=3 ∨ nd.op=7)) (k:=[0,3,5,6,9,58,123]) (kl:=[5,6]) (kc rfl (kc rfl (kc rfl (kc rfl (kc rfl (kc rfl (kc rfl kn))))))) (kc rfl (kc rfl kn)) ?_ ?_
 refine er (qp J (qb ?_))
 rintro (_ | _) h20
 refine qp J (qn (kq7 J) (kq2 J) (ecF J (ereg (qp J (qb ?_)))))
 rintro (_ | _) h21
 refine qp J (qk (kq7 J) (kq2 J) ?_)
 exact ⟨rfl,by rw [show (decide (nd.op=3 ∨ nd.op=7))=false from by (simp_all;try omega)]⟩
 refine qp J (qk (kq7 J) (kq2 J) ?_)
 exact ⟨rfl,by rw [show (decide (nd.op=3 ∨ nd.op=7))=true from by (simp_all;try omega)]⟩
 refine qp J (qn (kq7 J) (kq2 J) (ecT J (eskip ?_)))
 exact ⟨rfl,by rw [show (decide (nd.op=3 ∨ nd.op=7))=true from by (simp_all;try omega)]⟩
 refine sqn ?_
 refine ecS J ?_ ?_
 intro h22
 refine eseq (er (qp J (qb ?_)))
 rintro (_ | _) h23
 refine pq2 J (zq4 J (qp J (qn (kq5 J) (kq2 J) (ecT J (er (qp J (qn (kq1 J) kn (eret (sqr (bqr (sqr (fqr J ?_))))))))))))
 have ho:nd.op=3 ∨ nd.op=7:=Odt ‹_›
 have hhd:=head_mu (ds:=c.decls) (fs:=c.funs) (n:=nd.n) (ty:=nd.ty) (decide_eq_true ho)
 exact none_post h0 hK1 hc1 (hhd.trans (if_neg (fun q=>by first | exact absurd q.1 (of_decide_eq_false ‹_›) | exact absurd q.1 (Bool.eq_false_iff.1 ‹_›) | exact absurd q.2 (of_decide_eq_false ‹_›) | exact absurd q.2 (Bool.eq_false_iff.1 ‹_›))))
 refine pq2 J (qg J (qp J (qg J (qp J (qg J (hcall J J J (number_c _ _) ?_))))))
 rintro _ _ ⟨rfl,hq⟩
 obtain rfl:=hq.symm
 refine qb ?_
 rintro (_ | _) h24
 refine qg J (pq2 J (qn (kq5 J) (kq2 J) (ecT J (er (qp J (qn (kq1 J) kn (eret (sqr (bqr (sqr (fqr J ?_)))))))))))
 have ho:nd.op=3 ∨ nd.op=7:=Odt ‹_›
 have hhd:=head_mu (ds:=c.decls) (fs:=c.funs) (n:=nd.n) (ty:=nd.ty) (decide_eq_true ho)
 exact none_post h0 hK1 hc1 (hhd.trans (if_neg (fun q=>by first | exact absurd q.1 (of_decide_eq_false ‹_›) | exact absurd q.1 (Bool.eq_false_iff.1 ‹_›) | exact absurd q.2 (of_decide_eq_false ‹_›) | exact absurd q.2 (Bool.eq_false_iff.1 ‹_›))))
 refine qg J (pq2 J (qn (kq5 J) (kq2 J) (ecF J (eskip (sqn (er (hlda J J (lq2 J) (pq2 J (hbsl J J (lq1 J) (pq3 J (hbsl J J (lq1 J) (hcall J J J (enter_c _ i0 i1 X A [nd.n] [decide (nd.op=3)] (by simp) (by simp) hK1.ps) ?_))))))))))))
 rintro _ S2 ⟨bs,ba,rfl,hE,hc2,hbs,hba⟩
 have hK2:=en_kv hK1 hE hc2
 refine qp rfl (qk (kc rfl (kc rfl (kc rfl (kc rfl (kc rfl kn))))) (kc rfl (kc rfl kn)) (sqn (eseq (ereg (qp rfl (hlda rfl rfl (lc rfl (lc rfl (ln rfl))) (qp rfl (qp rfl (qp rfl (hbsl rfl rfl (lc rfl (ln rfl)) (hcall rfl rfl rfl (sorts_c _ c k i0 i1 _ _ (left - 1) deep nd.args [2] hza ⟨hd1,by have g:decide (4000 < deep)=false:=‹_›;simp at g;omega⟩ ⟨by have g:decide (left - 1 < 0)=false:=‹_›;simp at g;omega,by omega⟩ hK2 H1) ?_)))))))))))
 rintro _ S2' ⟨b,left',rfl,hK2',hcv,q3,q4,q5,q6⟩
 refine qp J (qn (kq2 J) kn (er (qp J (hcall J J J (lv_c hK1 hE hc2 hbs hba hK2' hcv (by simp)) ?_))))
 rintro _ S3 ⟨rfl,hK3,hc3⟩
 refine qn (kq1 J) kn (er (pq2 J (qn (kq1 J) kn (eret (bqr (sqr (fqr J ?_)))))))
 have ho:nd.op=3 ∨ nd.op=7:=Odt ‹_›
 have hb0:nd.brs=[]:=by
  have g:(decide (nd.op ≠ 4) && decide (nd.op ≠ 8) && decide (nd.brs.length ≠ 0))=false:=by assumption
  have g2:nd.op=4 ∨ nd.op=8 ∨ nd.brs.length=0:=by simpa [Decidable.or_iff_not_imp_left] using g
  exact Lnl (by omega)
 have hhd:=head_mu (ds:=c.decls) (fs:=c.funs) (n:=nd.n) (ty:=nd.ty) (decide_eq_true ho)
 exact mu_post ho hb0 (hhd.trans (if_pos ⟨by assumption,by assumption⟩)) hK3 (hc1.trans hc3) q3 q4 q5 q6
 intro h22
 refine eseq ?_
 refine ejoin 153 (decide (nd.op=4 ∨ nd.op=8)) (k:=[0,3,5,6,9,58,153]) (kl:=[5,6]) (kc rfl (kc rfl (kc rfl (kc rfl (kc rfl (kc rfl (kc rfl kn))))))) (kc rfl (kc rfl kn)) ?_ ?_
 refine er (qp J (qb ?_))
 rintro (_ | _) h25
 refine qp J (qn (kq7 J) (kq2 J) (ecF J (ereg (qp J (qb ?_)))))
 rintro (_ | _) h26
 refine qp J (qk (kq7 J) (kq2 J) ?_)
 exact ⟨rfl,by rw [show (decide (nd.op=4 ∨ nd.op=8))=false from by (simp_all;try omega)]⟩
 refine qp J (qk (kq7 J) (kq2 J) ?_)
 exact ⟨rfl,by rw [show (decide (nd.op=4 ∨ nd.op=8))=true from by (simp_all;try omega)]⟩
 refine qp J (qn (kq7 J) (kq2 J) (ecT J (eskip ?_)))
 exact ⟨rfl,by rw [show (decide (nd.op=4 ∨ nd.op=8))=true from by (simp_all;try omega)]⟩
 refine sqn ?_
 refine ecS J ?_ ?_
 intro h27
 refine er (pq3 J (qb ?_))
 rintro (_ | _) h28
 refine qp J (zq4 J (pq2 J (zq3 J (pq2 J (zq1 J (pq2 J (zq9 J ?_)))))))
 refine zq5 J (pq2 J (zq5 J (pq2 J (qn (kq1 J) kn (eret (bqr (sqr (fqr J ?_))))))))
 rotate_left
 refine qp J (qg J (qp J (qg J (qp J (qg J (qp J (qg J (qp J (qb ?_)))))))))
 rintro (_ | _) h29
 refine pq2 J (zq3 J (pq2 J (zq1 J (pq2 J (zq10 J (zq4 J ?_))))))
 refine pq2 J (zq5 J (pq2 J (qn (kq1 J) kn (eret (bqr (sqr (fqr J ?_)))))))
 rotate_left
 refine pq2 J (qg J (qp J (qg J (qp J (qg J (qp J (qb ?_)))))))
 rintro (_ | _) h30
 refine pq2 J (zq1 J (pq2 J (zq10 J (zq4 J (pq2 J (zq3 J ?_))))))
 refine zq2 J (pq2 J (qn (kq1 J) kn (eret (bqr (sqr (fqr J ?_))))))
 rotate_left
 refine pq2 J (qg J (qp J (qb ?_)))
 rintro (_ | _) h31
 refine pq2 J (zq10 J (zq4 J (pq2 J (zq5 J (qp J ?_)))))
 refine qp J (qn (kq1 J) kn (eret (bqr (sqr (fqr J ?_)))))
 rotate_left
 refine pq2 J (qg J (qp J (qg J (qp J (qg J (qp J (qg J (hldo J hK1.hk J ?_))))))))
 refine qg rfl (qp rfl (qg rfl (qp rfl (qg rfl (hsub rfl rfl (i64w (by have g1:decide (1 ≤ nd.ty)=true:=‹_›;have g2:typedOk c.decls nd.ty=true:=‹_›;have g3:=hc.dl;simp [typedOk] at g1 g2;omega)) (qg rfl ?_))))))
 have g1:decide (1 ≤ nd.ty)=true:=by assumption
 have g2:typedOk c.decls nd.ty=true:=by assumption
 have g3:decide (((nd.args.map Node.enc).length:Int)=0)=true:=by assumption
 have ha:nd.args=[]:=by simp at g3;first | exact g3 | exact Lnl (by omega)
 have hty:1 ≤ nd.ty ∧ nd.ty ≤ c.decls.length:=by simp [typedOk] at g1 g2;omega
 obtain ⟨d,hd⟩:=get_of_lt (l:=c.decls) (i:=(nd.ty - 1).toNat) (by omega)
 have hda:declAt c.decls nd.ty=some d:=by rw [declAt,if_pos hty.1];exact hd
 refine hia (y:=Decl.enc d) rfl rfl (by omega) (by rw [Lgm,hd];rfl) rfl ?_
 refine qg J (qp J (qg J (qp J (qg J (qp J (qg J (qp J (qg J (qp J (qg J (qp J (qb ?_))))))))))))
 rintro (_ | _) h32
 refine pq2 J (zq5 J (pq2 J (qn (kq1 J) kn (eret (bqr (sqr (fqr J ?_)))))))
 rotate_left
 refine qp rfl (qp rfl (qg rfl (qp rfl (qg rfl (hlda rfl rfl (lc rfl (lc rfl (ln rfl))) (qg rfl (hlda rfl rfl (lc rfl (lc rfl (lc rfl (lc rfl (lc rfl (ln rfl)))))) (qg rfl (qp rfl (qg rfl (hcall rfl rfl rfl (branches_c _ c k i0 i1 X A (left - 1) deep nd d hc.dl hty hd (hc.xa d (Lmg hd)) hz ⟨hd1,by have g:decide (4000 < deep)=false:=‹_›;simp at g;omega⟩ ⟨by have g:decide (left - 1 < 0)=false:=‹_›;simp at g;omega,by omega⟩ hK1 H2) ?_)))))))))))
 rintro _ S2 ⟨b,left',rfl,hP⟩
 refine pq2 J (qn (kq1 J) kn (eret (bqr (sqr (fqr J ?_)))))
 rotate_left
 intro h27
 refine er (qp J (qb ?_))
 rintro (_ | _) h33
 refine qp J (qn (kq7 J) (kq2 J) (ecF J (er (qp J (qb ?_)))))
 rintro (_ | _) h34
 refine qp J (qn (kq6 J) (kq2 J) (ecF J (er (qp J (qb ?_)))))
 rintro (_ | _) h35
 refine qp J (qn (kq6 J) (kq2 J) (ecF J (er (qp J (qb ?_)))))
 rintro (_ | _) h36
 refine qp J (qn (kq6 J) (kq2 J) (ecF J (er (qp J (qb ?_)))))
 rintro (_ | _) h37
 refine qp J (qn (kq6 J) (kq2 J) (ecF J (er (qp J (qb ?_)))))
 rintro (_ | _) h38
 refine qp J (qn (kq5 J) (kq2 J) (ecF J (eskip (bqn (sqn (er (qp J (qn (kq1 J) kn (eret (fqr J ?_))))))))))
 have hhd:headOf c.decls c.funs nd.op nd.n nd.ty=none:=head_no ‹_› ‹_› ‹_› ‹_› (by simp at *;omega) (by simp at *;omega) ‹_› ‹_› ‹_› ‹_› ‹_› ‹_›
 exact none_post h0 hK1 hc1 hhd
 refine qp J (qn (kq5 J) (kq2 J) (ecT J (er (pq3 J (qb ?_)))))
 rintro (_ | _) h39
 refine qp J (zq3 J (pq2 J (zq7 J (pq2 J (qn (kq1 J) kn (eret (bqr (sqr (fqr J ?_)))))))))
 have ho:nd.op=14:=Odt ‹_›
 have hb0:nd.brs=[]:=by
  have g:(decide (nd.op ≠ 4) && decide (nd.op ≠ 8) && decide (nd.brs.length ≠ 0))=false:=by assumption
  have g2:nd.op=4 ∨ nd.op=8 ∨ nd.brs.length=0:=by simpa [Decidable.or_iff_not_imp_left] using g
  exact Lnl (by omega)
 have hhd:=head_done (ds:=c.decls) (fs:=c.funs) (n:=nd.n) (ty:=nd.ty) (decide_eq_true ho)
 first
 | exact sorts_post (want:=[0]) (by rw [ho];rfl) (by omega) (by omega) hb0 (hhd.trans (if_pos ⟨Odt ‹_›,Odt ‹_›⟩)) hc1 hP
 | exact none_post h0 hK1 hc1 (hhd.trans (if_neg (fun q=>by first | exact absurd q.1 (of_decide_eq_false ‹_›) | exact absurd q.1 (Bool.eq_false_iff.1 ‹_›) | exact absurd q.2 (of_decide_eq_false ‹_›) | exact absurd q.2 (Bool.eq_false_iff.1 ‹_›))))
 refine qp J (qg J (qp J (qg J (qp J (qg J (qp J (qb ?_)))))))
 rintro (_ | _) h40
 refine pq2 J (zq7 J (pq2 J (qn (kq1 J) kn (eret (bqr (sqr (fqr J ?_)))))))
 have ho:nd.op=14:=Odt ‹_›
 have hb0:nd.brs=[]:=by
  have g:(decide (nd.op ≠ 4) && decide (nd.op ≠ 8) && decide (nd.brs.length ≠ 0))=false:=by assumption
  have g2:nd.op=4 ∨ nd.op=8 ∨ nd.brs.length=0:=by simpa [Decidable.or_iff_not_imp_left] using g
  exact Lnl (by omega)
 have hhd:=head_done (ds:=c.decls) (fs:=c.funs) (n:=nd.n) (ty:=nd.ty) (decide_eq_true ho)
 first
 | exact sorts_post (want:=[0]) (by rw [ho];rfl) (by omega) (by omega) hb0 (hhd.trans (if_pos ⟨Odt ‹_›,Odt ‹_›⟩)) hc1 hP
 | exact none_post h0 hK1 hc1 (hhd.trans (if_neg (fun q=>by first | exact absurd q.1 (of_decide_eq_false ‹_›) | exact absurd q.1 (Bool.eq_false_iff.1 ‹_›) | exact absurd q.2 (of_decide_eq_false ‹_›) | exact absurd q.2 (Bool.eq_false_iff.1 ‹_›))))
 refine qp rfl (qp rfl (qg rfl (qp rfl (qg rfl (hlda rfl rfl (lc rfl (lc rfl (ln rfl))) (qg rfl (qp rfl (qg rfl (qp rfl (qg rfl (qp rfl (qg rfl (hbsl rfl rfl (lc rfl (ln rfl)) (qg rfl (hcall rfl rfl rfl (sorts_c _ c k i0 i1 X A (left - 1) deep nd.args [0] hza ⟨hd1,by have g:decide (4000 < deep)=false:=‹_›;simp at g;omega⟩ ⟨by have g:decide (left - 1 < 0)=false:=‹_›;simp at g;omega,by omega⟩ hK1 H1) ?_)))))))))))))))
 rintro _ S2 ⟨b,left',rfl,hP⟩
 refine pq2 J (qn (kq1 J) kn (eret (bqr (sqr (fqr J ?_)))))
 have ho:nd.op=14:=Odt ‹_›
 have hb0:nd.brs=[]:=by
  have g:(decide (nd.op ≠ 4) && decide (nd.op ≠ 8) && decide (nd.brs.length ≠ 0))=false:=by assumption
  have g2:nd.op=4 ∨ nd.op=8 ∨ nd.brs.length=0:=by simpa [Decidable.or_iff_not_imp_left] using g
  exact Lnl (by omega)
 have hhd:=head_done (ds:=c.decls) (fs:=c.funs) (n:=nd.n) (ty:=nd.ty) (decide_eq_true ho)
 first
 | exact sorts_post (want:=[0]) (by rw [ho];rfl) (by omega) (by omega) hb0 (hhd.trans (if_pos ⟨Odt ‹_›,Odt ‹_›⟩)) hc1 hP
 | exact none_post h0 hK1 hc1 (hhd.trans (if_neg (fun q=>by first | exact absurd q.1 (of_decide_eq_false ‹_›) | exact absurd q.1 (Bool.eq_false_iff.1 ‹_›) | exact absurd q.2 (of_decide_eq_false ‹_›) | exact absurd q.2 (Bool.eq_false_iff.1 ‹_›))))
 refine qp J (qn (kq6 J) (kq2 J) (ecT J (er (pq3 J (qb ?_)))))
 rintro (_ | _) h41
 refine qp J (zq3 J (pq2 J (zq8 J (pq2 J (zq8 J ?_)))))
 refine zq7 J (pq2 J (qn (kq1 J) kn (eret (bqr (sqr (fqr J ?_))))))
 have ho:nd.op=13:=Odt ‹_›
 have hb0:nd.brs=[]:=by
  have g:(decide (nd.op ≠ 4) && decide (nd.op ≠ 8) && decide (nd.brs.length ≠ 0))=false:=by assumption
  have g2:nd.op=4 ∨ nd.op=8 ∨ nd.brs.length=0:=by simpa [Decidable.or_iff_not_imp_left] using g
  exact Lnl (by omega)
 have hhd:=head_call (ds:=c.decls) (fs:=c.funs) (n:=nd.n) (ty:=nd.ty) (decide_eq_true ho)
 first
 | exact sorts_post (want:=g.params.map fun (a:Arg)=>sideOf a.co) (by rw [ho];rfl) (by omega) (by omega) hb0 ((hhd.trans (if_pos ⟨Odt ‹_›,Odt ‹_›⟩)).trans (by rw [hg];rfl)) hc1 hP
 | exact none_post h0 hK1 hc1 (hhd.trans (if_neg (fun q=>by first | exact absurd q.1 (of_decide_eq_false ‹_›) | exact absurd q.1 (Bool.eq_false_iff.1 ‹_›) | exact absurd q.2 (of_decide_eq_false ‹_›) | exact absurd q.2 (Bool.eq_false_iff.1 ‹_›))))
 | (refine none_post h0 hK1 hc1 ?_
    have q:decide (nd.n < ((c.funs.map CFun.enc).length:Int))=false:=by assumption
    have q2:decide (0 ≤ nd.n)=true:=by assumption
    rw [hhd,if_pos ⟨Odt ‹_›,Odt q2⟩,List.getElem?_eq_none (by simp at q q2;omega)]
    rfl)
 refine qp J (qg J (qp J (qg J (qp J (qg J (qp J (qb ?_)))))))
 rintro (_ | _) h42
 refine pq2 J (zq8 J (pq2 J (zq10 J (zq2 J ?_))))
 refine zq3 J (pq2 J (qn (kq1 J) kn (eret (bqr (sqr (fqr J ?_))))))
 have ho:nd.op=13:=Odt ‹_›
 have hb0:nd.brs=[]:=by
  have g:(decide (nd.op ≠ 4) && decide (nd.op ≠ 8) && decide (nd.brs.length ≠ 0))=false:=by assumption
  have g2:nd.op=4 ∨ nd.op=8 ∨ nd.brs.length=0:=by simpa [Decidable.or_iff_not_imp_left] using g
  exact Lnl (by omega)
 have hhd:=head_call (ds:=c.decls) (fs:=c.funs) (n:=nd.n) (ty:=nd.ty) (decide_eq_true ho)
 first
 | exact sorts_post (want:=g.params.map fun (a:Arg)=>sideOf a.co) (by rw [ho];rfl) (by omega) (by omega) hb0 ((hhd.trans (if_pos ⟨Odt ‹_›,Odt ‹_›⟩)).trans (by rw [hg];rfl)) hc1 hP
 | exact none_post h0 hK1 hc1 (hhd.trans (if_neg (fun q=>by first | exact absurd q.1 (of_decide_eq_false ‹_›) | exact absurd q.1 (Bool.eq_false_iff.1 ‹_›) | exact absurd q.2 (of_decide_eq_false ‹_›) | exact absurd q.2 (Bool.eq_false_iff.1 ‹_›))))
 | (refine none_post h0 hK1 hc1 ?_
    have q:decide (nd.n < ((c.funs.map CFun.enc).length:Int))=false:=by assumption
    have q2:decide (0 ≤ nd.n)=true:=by assumption
    rw [hhd,if_pos ⟨Odt ‹_›,Odt q2⟩,List.getElem?_eq_none (by simp at q q2;omega)]
    rfl)
 refine pq2 J (qg J (qp J (qg J (qp J (qg J (qp J (qg J (qp J (qg J (qp J (qg J (hldo J hK1.hk J ?_))))))))))))
 refine qg J (qp J (qg J (qp J (qb ?_))))
 rintro (_ | _) h43
 refine pq2 J (zq10 J (zq5 J (pq2 J (qn (kq1 J) kn (eret (bqr (sqr ?_)))))))
 refine fqr J ?_
 have ho:nd.op=13:=Odt ‹_›
 have hb0:nd.brs=[]:=by
  have g:(decide (nd.op ≠ 4) && decide (nd.op ≠ 8) && decide (nd.brs.length ≠ 0))=false:=by assumption
  have g2:nd.op=4 ∨ nd.op=8 ∨ nd.brs.length=0:=by simpa [Decidable.or_iff_not_imp_left] using g
  exact Lnl (by omega)
 have hhd:=head_call (ds:=c.decls) (fs:=c.funs) (n:=nd.n) (ty:=nd.ty) (decide_eq_true ho)
 first
 | exact sorts_post (want:=g.params.map fun (a:Arg)=>sideOf a.co) (by rw [ho];rfl) (by omega) (by omega) hb0 ((hhd.trans (if_pos ⟨Odt ‹_›,Odt ‹_›⟩)).trans (by rw [hg];rfl)) hc1 hP
 | exact none_post h0 hK1 hc1 (hhd.trans (if_neg (fun q=>by first | exact absurd q.1 (of_decide_eq_false ‹_›) | exact absurd q.1 (Bool.eq_false_iff.1 ‹_›) | exact absurd q.2 (of_decide_eq_false ‹_›) | exact absurd q.2 (Bool.eq_false_iff.1 ‹_›))))
 | (refine none_post h0 hK1 hc1 ?_
    have q:decide (nd.n < ((c.funs.map CFun.enc).length:Int))=false:=by assumption
    have q2:decide (0 ≤ nd.n)=true:=by assumption
    rw [hhd,if_pos ⟨Odt ‹_›,Odt q2⟩,List.getElem?_eq_none (by simp at q q2;omega)]
    rfl)
 refine pq2 J (qg J (qp J (qg J (hlda J J (lq2 J) (qg J (qp J (qg J (qp J (qg J (qp J (qg J (qp J (qg J (qp J (qg J (hldo J hK1.hk J ?_))))))))))))))))
 refine qg J (qp J (qg J (qp J (qg J ?_))))
 obtain ⟨g,hg⟩:=get_of_lt (l:=c.funs) (i:=nd.n.toNat) (by simp at *;omega)
 refine hia (y:=.agg (Str g.name :: encArgs g.params :: ints g.vars :: g.body.cs)) rfl rfl (by simp at *;omega) (by rw [Lgm,hg];simp [CFun.enc_eq]) rfl ?_
 refine qg rfl (qp rfl (qg rfl (qp rfl (qg rfl (qp rfl (qg rfl (hcall rfl rfl rfl (args_cc _ c k i0 i1 X A (left - 1) deep nd.args g.params hza (hc.ga g (Lmg hg)) ⟨hd1,by have g:decide (4000 < deep)=false:=‹_›;simp at g;omega⟩ ⟨by have g:decide (left - 1 < 0)=false:=‹_›;simp at g;omega,by omega⟩ hK1 H1) ?_)))))))
 rintro _ S2 ⟨b,left',rfl,hP⟩
 refine pq2 J (qn (kq1 J) kn (eret (bqr (sqr (fqr J ?_)))))
 have ho:nd.op=13:=Odt ‹_›
 have hb0:nd.brs=[]:=by
  have g:(decide (nd.op ≠ 4) && decide (nd.op ≠ 8) && decide (nd.brs.length ≠ 0))=false:=by assumption
  have g2:nd.op=4 ∨ nd.op=8 ∨ nd.brs.length=0:=by simpa [Decidable.or_iff_not_imp_left] using g
  exact Lnl (by omega)
 have hhd:=head_call (ds:=c.decls) (fs:=c.funs) (n:=nd.n) (ty:=nd.ty) (decide_eq_true ho)
 first
 | exact sorts_post (want:=g.params.map fun (a:Arg)=>sideOf a.co) (by rw [ho];rfl) (by omega) (by omega) hb0 ((hhd.trans (if_pos ⟨Odt ‹_›,Odt ‹_›⟩)).trans (by rw [hg];rfl)) hc1 hP
 | exact none_post h0 hK1 hc1 (hhd.trans (if_neg (fun q=>by first | exact absurd q.1 (of_decide_eq_false ‹_›) | exact absurd q.1 (Bool.eq_false_iff.1 ‹_›) | exact absurd q.2 (of_decide_eq_false ‹_›) | exact absurd q.2 (Bool.eq_false_iff.1 ‹_›))))
 | (refine none_post h0 hK1 hc1 ?_
    have q:decide (nd.n < ((c.funs.map CFun.enc).length:Int))=false:=by assumption
    have q2:decide (0 ≤ nd.n)=true:=by assumption
    rw [hhd,if_pos ⟨Odt ‹_›,Odt q2⟩,List.getElem?_eq_none (by simp at q q2;omega)]
    rfl)
 refine qp J (qn (kq6 J) (kq2 J) (ecT J (er (pq3 J (qb ?_)))))
 rintro (_ | _) h44
 refine qp J (zq3 J (pq2 J (zq7 J (pq2 J (qn (kq1 J) kn (eret (bqr (sqr (fqr J ?_)))))))))
 have ho:nd.op=12:=Odt ‹_›
 have hb0:nd.brs=[]:=by
  have g:(decide (nd.op ≠ 4) && decide (nd.op ≠ 8) && decide (nd.brs.length ≠ 0))=false:=by assumption
  have g2:nd.op=4 ∨ nd.op=8 ∨ nd.brs.length=0:=by simpa [Decidable.or_iff_not_imp_left] using g
  exact Lnl (by omega)
 have hhd:=head_emit (ds:=c.decls) (fs:=c.funs) (n:=nd.n) (ty:=nd.ty) (decide_eq_true ho)
 first
 | exact sorts_post (want:=[0,2]) (by rw [ho];rfl) (by omega) (by omega) hb0 (hhd.trans (if_pos ⟨Odt ‹_›,Odt ‹_›⟩)) hc1 hP
 | exact none_post h0 hK1 hc1 (hhd.trans (if_neg (fun q=>by first | exact absurd q.1 (of_decide_eq_false ‹_›) | exact absurd q.1 (Bool.eq_false_iff.1 ‹_›) | exact absurd q.2 (of_decide_eq_false ‹_›) | exact absurd q.2 (Bool.eq_false_iff.1 ‹_›))))
 refine qp J (qg J (qp J (qg J (qp J (qg J (qp J (qb ?_)))))))
 rintro (_ | _) h45
 refine pq2 J (zq7 J (pq2 J (qn (kq1 J) kn (eret (bqr (sqr (fqr J ?_)))))))
 have ho:nd.op=12:=Odt ‹_›
 have hb0:nd.brs=[]:=by
  have g:(decide (nd.op ≠ 4) && decide (nd.op ≠ 8) && decide (nd.brs.length ≠ 0))=false:=by assumption
  have g2:nd.op=4 ∨ nd.op=8 ∨ nd.brs.length=0:=by simpa [Decidable.or_iff_not_imp_left] using g
  exact Lnl (by omega)
 have hhd:=head_emit (ds:=c.decls) (fs:=c.funs) (n:=nd.n) (ty:=nd.ty) (decide_eq_true ho)
 first
 | exact sorts_post (want:=[0,2]) (by rw [ho];rfl) (by omega) (by omega) hb0 (hhd.trans (if_pos ⟨Odt ‹_›,Odt ‹_›⟩)) hc1 hP
 | exact none_post h0 hK1 hc1 (hhd.trans (if_neg (fun q=>by first | exact absurd q.1 (of_decide_eq_false ‹_›) | exact absurd q.1 (Bool.eq_false_iff.1 ‹_›) | exact absurd q.2 (of_decide_eq_false ‹_›) | exact absurd q.2 (Bool.eq_false_iff.1 ‹_›))))
 refine qp rfl (qp rfl (qg rfl (qp rfl (qg rfl (hlda rfl rfl (lc rfl (lc rfl (ln rfl))) (qg rfl (qp rfl (qg rfl (qp rfl (qg rfl (qp rfl (qg rfl (hbsl rfl rfl (lc rfl (lc rfl (ln rfl))) (qg rfl (hcall rfl rfl rfl (sorts_c _ c k i0 i1 X A (left - 1) deep nd.args [0,2] hza ⟨hd1,by have g:decide (4000 < deep)=false:=‹_›;simp at g;omega⟩ ⟨by have g:decide (left - 1 < 0)=false:=‹_›;simp at g;omega,by omega⟩ hK1 H1) ?_)))))))))))))))
 rintro _ S2 ⟨b,left',rfl,hP⟩
 refine pq2 J (qn (kq1 J) kn (eret (bqr (sqr (fqr J ?_)))))
 have ho:nd.op=12:=Odt ‹_›
 have hb0:nd.brs=[]:=by
  have g:(decide (nd.op ≠ 4) && decide (nd.op ≠ 8) && decide (nd.brs.length ≠ 0))=false:=by assumption
  have g2:nd.op=4 ∨ nd.op=8 ∨ nd.brs.length=0:=by simpa [Decidable.or_iff_not_imp_left] using g
  exact Lnl (by omega)
 have hhd:=head_emit (ds:=c.decls) (fs:=c.funs) (n:=nd.n) (ty:=nd.ty) (decide_eq_true ho)
 first
 | exact sorts_post (want:=[0,2]) (by rw [ho];rfl) (by omega) (by omega) hb0 (hhd.trans (if_pos ⟨Odt ‹_›,Odt ‹_›⟩)) hc1 hP
 | exact none_post h0 hK1 hc1 (hhd.trans (if_neg (fun q=>by first | exact absurd q.1 (of_decide_eq_false ‹_›) | exact absurd q.1 (Bool.eq_false_iff.1 ‹_›) | exact absurd q.2 (of_decide_eq_false ‹_›) | exact absurd q.2 (Bool.eq_false_iff.1 ‹_›))))
 refine qp J (qn (kq6 J) (kq2 J) (ecT J (er (pq3 J (qb ?_)))))
 rintro (_ | _) h46
 refine qp J (zq3 J (pq2 J (zq7 J (pq2 J (qn (kq1 J) kn (eret (bqr (sqr (fqr J ?_)))))))))
 have ho:nd.op=11:=Odt ‹_›
 have hb0:nd.brs=[]:=by
  have g:(decide (nd.op ≠ 4) && decide (nd.op ≠ 8) && decide (nd.brs.length ≠ 0))=false:=by assumption
  have g2:nd.op=4 ∨ nd.op=8 ∨ nd.brs.length=0:=by simpa [Decidable.or_iff_not_imp_left] using g
  exact Lnl (by omega)
 have hhd:=head_ifz (ds:=c.decls) (fs:=c.funs) (n:=nd.n) (ty:=nd.ty) (decide_eq_true ho)
 first
 | exact sorts_post (want:=[0,2,2]) (by rw [ho];rfl) (by omega) (by omega) hb0 (hhd.trans (if_pos ⟨Odt ‹_›,Odt ‹_›⟩)) hc1 hP
 | exact none_post h0 hK1 hc1 (hhd.trans (if_neg (fun q=>by first | exact absurd q.1 (of_decide_eq_false ‹_›) | exact absurd q.1 (Bool.eq_false_iff.1 ‹_›) | exact absurd q.2 (of_decide_eq_false ‹_›) | exact absurd q.2 (Bool.eq_false_iff.1 ‹_›))))
 refine qp J (qg J (qp J (qg J (qp J (qg J (qp J (qb ?_)))))))
 rintro (_ | _) h47
 refine pq2 J (zq7 J (pq2 J (qn (kq1 J) kn (eret (bqr (sqr (fqr J ?_)))))))
 have ho:nd.op=11:=Odt ‹_›
 have hb0:nd.brs=[]:=by
  have g:(decide (nd.op ≠ 4) && decide (nd.op ≠ 8) && decide (nd.brs.length ≠ 0))=false:=by assumption
  have g2:nd.op=4 ∨ nd.op=8 ∨ nd.brs.length=0:=by simpa [Decidable.or_iff_not_imp_left] using g
  exact Lnl (by omega)
 have hhd:=head_ifz (ds:=c.decls) (fs:=c.funs) (n:=nd.n) (ty:=nd.ty) (decide_eq_true ho)
 first
 | exact sorts_post (want:=[0,2,2]) (by rw [ho];rfl) (by omega) (by omega) hb0 (hhd.trans (if_pos ⟨Odt ‹_›,Odt ‹_›⟩)) hc1 hP
 | exact none_post h0 hK1 hc1 (hhd.trans (if_neg (fun q=>by first | exact absurd q.1 (of_decide_eq_false ‹_›) | exact absurd q.1 (Bool.eq_false_iff.1 ‹_›) | exact absurd q.2 (of_decide_eq_false ‹_›) | exact absurd q.2 (Bool.eq_false_iff.1 ‹_›))))
 refine qp rfl (qp rfl (qg rfl (qp rfl (qg rfl (hlda rfl rfl (lc rfl (lc rfl (ln rfl))) (qg rfl (qp rfl (qg rfl (qp rfl (qg rfl (qp rfl (qg rfl (hbsl rfl rfl (lc rfl (lc rfl (lc rfl (ln rfl)))) (qg rfl (hcall rfl rfl rfl (sorts_c _ c k i0 i1 X A (left - 1) deep nd.args [0,2,2] hza ⟨hd1,by have g:decide (4000 < deep)=false:=‹_›;simp at g;omega⟩ ⟨by have g:decide (left - 1 < 0)=false:=‹_›;simp at g;omega,by omega⟩ hK1 H1) ?_)))))))))))))))
 rintro _ S2 ⟨b,left',rfl,hP⟩
 refine pq2 J (qn (kq1 J) kn (eret (bqr (sqr (fqr J ?_)))))
 have ho:nd.op=11:=Odt ‹_›
 have hb0:nd.brs=[]:=by
  have g:(decide (nd.op ≠ 4) && decide (nd.op ≠ 8) && decide (nd.brs.length ≠ 0))=false:=by assumption
  have g2:nd.op=4 ∨ nd.op=8 ∨ nd.brs.length=0:=by simpa [Decidable.or_iff_not_imp_left] using g
  exact Lnl (by omega)
 have hhd:=head_ifz (ds:=c.decls) (fs:=c.funs) (n:=nd.n) (ty:=nd.ty) (decide_eq_true ho)
 first
 | exact sorts_post (want:=[0,2,2]) (by rw [ho];rfl) (by omega) (by omega) hb0 (hhd.trans (if_pos ⟨Odt ‹_›,Odt ‹_›⟩)) hc1 hP
 | exact none_post h0 hK1 hc1 (hhd.trans (if_neg (fun q=>by first | exact absurd q.1 (of_decide_eq_false ‹_›) | exact absurd q.1 (Bool.eq_false_iff.1 ‹_›) | exact absurd q.2 (of_decide_eq_false ‹_›) | exact absurd q.2 (Bool.eq_false_iff.1 ‹_›))))
 refine qp J (qn (kq6 J) (kq2 J) (ecT J (er (pq3 J (qb ?_)))))
 rintro (_ | _) h48
 refine qp J (zq3 J (pq2 J (zq3 J (pq2 J (zq7 J (pq2 J (qn (kq1 J) kn (eret (bqr ?_)))))))))
 refine sqr (fqr J ?_)
 have ho:nd.op=10:=Odt ‹_›
 have hb0:nd.brs=[]:=by
  have g:(decide (nd.op ≠ 4) && decide (nd.op ≠ 8) && decide (nd.brs.length ≠ 0))=false:=by assumption
  have g2:nd.op=4 ∨ nd.op=8 ∨ nd.brs.length=0:=by simpa [Decidable.or_iff_not_imp_left] using g
  exact Lnl (by omega)
 have hhd:=head_prim (ds:=c.decls) (fs:=c.funs) (n:=nd.n) (ty:=nd.ty) (decide_eq_true ho)
 first
 | exact sorts_post (want:=[0,0,1]) (by rw [ho];rfl) (by omega) (by omega) hb0 (hhd.trans (if_pos ⟨Odt ‹_›,Odt ‹_›,Odt ‹_›⟩)) hc1 hP
 | exact none_post h0 hK1 hc1 (hhd.trans (if_neg (fun q=>by first | exact absurd q.1 (of_decide_eq_false ‹_›) | exact absurd q.1 (Bool.eq_false_iff.1 ‹_›) | exact absurd q.2.1 (of_decide_eq_false ‹_›) | exact absurd q.2.1 (Bool.eq_false_iff.1 ‹_›) | exact absurd q.2.2 (of_decide_eq_false ‹_›) | exact absurd q.2.2 (Bool.eq_false_iff.1 ‹_›))))
 refine qp J (qg J (qp J (qg J (qp J (qg J (qp J (qb ?_)))))))
 rintro (_ | _) h49
 refine pq2 J (zq3 J (pq2 J (zq7 J (pq2 J (qn (kq1 J) kn (eret (bqr (sqr (fqr J ?_)))))))))
 have ho:nd.op=10:=Odt ‹_›
 have hb0:nd.brs=[]:=by
  have g:(decide (nd.op ≠ 4) && decide (nd.op ≠ 8) && decide (nd.brs.length ≠ 0))=false:=by assumption
  have g2:nd.op=4 ∨ nd.op=8 ∨ nd.brs.length=0:=by simpa [Decidable.or_iff_not_imp_left] using g
  exact Lnl (by omega)
 have hhd:=head_prim (ds:=c.decls) (fs:=c.funs) (n:=nd.n) (ty:=nd.ty) (decide_eq_true ho)
 first
 | exact sorts_post (want:=[0,0,1]) (by rw [ho];rfl) (by omega) (by omega) hb0 (hhd.trans (if_pos ⟨Odt ‹_›,Odt ‹_›,Odt ‹_›⟩)) hc1 hP
 | exact none_post h0 hK1 hc1 (hhd.trans (if_neg (fun q=>by first | exact absurd q.1 (of_decide_eq_false ‹_›) | exact absurd q.1 (Bool.eq_false_iff.1 ‹_›) | exact absurd q.2.1 (of_decide_eq_false ‹_›) | exact absurd q.2.1 (Bool.eq_false_iff.1 ‹_›) | exact absurd q.2.2 (of_decide_eq_false ‹_›) | exact absurd q.2.2 (Bool.eq_false_iff.1 ‹_›))))
 refine pq2 J (qg J (qp J (qg J (qp J (qg J (qp J (qb ?_)))))))
 rintro (_ | _) h50
 refine pq2 J (zq7 J (pq2 J (qn (kq1 J) kn (eret (bqr (sqr (fqr J ?_)))))))
 have ho:nd.op=10:=Odt ‹_›
 have hb0:nd.brs=[]:=by
  have g:(decide (nd.op ≠ 4) && decide (nd.op ≠ 8) && decide (nd.brs.length ≠ 0))=false:=by assumption
  have g2:nd.op=4 ∨ nd.op=8 ∨ nd.brs.length=0:=by simpa [Decidable.or_iff_not_imp_left] using g
  exact Lnl (by omega)
 have hhd:=head_prim (ds:=c.decls) (fs:=c.funs) (n:=nd.n) (ty:=nd.ty) (decide_eq_true ho)
 first
 | exact sorts_post (want:=[0,0,1]) (by rw [ho];rfl) (by omega) (by omega) hb0 (hhd.trans (if_pos ⟨Odt ‹_›,Odt ‹_›,Odt ‹_›⟩)) hc1 hP
 | exact none_post h0 hK1 hc1 (hhd.trans (if_neg (fun q=>by first | exact absurd q.1 (of_decide_eq_false ‹_›) | exact absurd q.1 (Bool.eq_false_iff.1 ‹_›) | exact absurd q.2.1 (of_decide_eq_false ‹_›) | exact absurd q.2.1 (Bool.eq_false_iff.1 ‹_›) | exact absurd q.2.2 (of_decide_eq_false ‹_›) | exact absurd q.2.2 (Bool.eq_false_iff.1 ‹_›))))
 refine qp rfl (qp rfl (qg rfl (qp rfl (qg rfl (hlda rfl rfl (lc rfl (lc rfl (ln rfl))) (qg rfl (qp rfl (qg rfl (qp rfl (qg rfl (qp rfl (qg rfl (hbsl rfl rfl (lc rfl (lc rfl (lc rfl (ln rfl)))) (qg rfl (hcall rfl rfl rfl (sorts_c _ c k i0 i1 X A (left - 1) deep nd.args [0,0,1] hza ⟨hd1,by have g:decide (4000 < deep)=false:=‹_›;simp at g;omega⟩ ⟨by have g:decide (left - 1 < 0)=false:=‹_›;simp at g;omega,by omega⟩ hK1 H1) ?_)))))))))))))))
 rintro _ S2 ⟨b,left',rfl,hP⟩
 refine pq2 J (qn (kq1 J) kn (eret (bqr (sqr (fqr J ?_)))))
 have ho:nd.op=10:=Odt ‹_›
 have hb0:nd.brs=[]:=by
  have g:(decide (nd.op ≠ 4) && decide (nd.op ≠ 8) && decide (nd.brs.length ≠ 0))=false:=by assumption
  have g2:nd.op=4 ∨ nd.op=8 ∨ nd.brs.length=0:=by simpa [Decidable.or_iff_not_imp_left] using g
  exact Lnl (by omega)
 have hhd:=head_prim (ds:=c.decls) (fs:=c.funs) (n:=nd.n) (ty:=nd.ty) (decide_eq_true ho)
 first
 | exact sorts_post (want:=[0,0,1]) (by rw [ho];rfl) (by omega) (by omega) hb0 (hhd.trans (if_pos ⟨Odt ‹_›,Odt ‹_›,Odt ‹_›⟩)) hc1 hP
 | exact none_post h0 hK1 hc1 (hhd.trans (if_neg (fun q=>by first | exact absurd q.1 (of_decide_eq_false ‹_›) | exact absurd q.1 (Bool.eq_false_iff.1 ‹_›) | exact absurd q.2.1 (of_decide_eq_false ‹_›) | exact absurd q.2.1 (Bool.eq_false_iff.1 ‹_›) | exact absurd q.2.2 (of_decide_eq_false ‹_›) | exact absurd q.2.2 (Bool.eq_false_iff.1 ‹_›))))
 refine qp J (qn (kq7 J) (kq2 J) (ecT J (er (pq3 J (qb ?_)))))
 rintro (_ | _) h51
 refine qp J (zq1 J (pq2 J (zq7 J (pq2 J (qn (kq1 J) kn (eret (bqr (sqr (fqr J ?_)))))))))
 have ho:nd.op=9:=Odt ‹_›
 have hb0:nd.brs=[]:=by
  have g:(decide (nd.op ≠ 4) && decide (nd.op ≠ 8) && decide (nd.brs.length ≠ 0))=false:=by assumption
  have g2:nd.op=4 ∨ nd.op=8 ∨ nd.brs.length=0:=by simpa [Decidable.or_iff_not_imp_left] using g
  exact Lnl (by omega)
 have hhd:=head_cut (ds:=c.decls) (fs:=c.funs) (n:=nd.n) (ty:=nd.ty) (decide_eq_true ho)
 first
 | exact sorts_post (want:=[0,1]) (by rw [ho];rfl) (by omega) (by omega) hb0 (hhd.trans (if_pos ⟨‹_›,Odt ‹_›⟩)) hc1 hP
 | exact none_post h0 hK1 hc1 (hhd.trans (if_neg (fun q=>by first | exact absurd q.1 (of_decide_eq_false ‹_›) | exact absurd q.1 (Bool.eq_false_iff.1 ‹_›) | exact absurd q.2 (of_decide_eq_false ‹_›) | exact absurd q.2 (Bool.eq_false_iff.1 ‹_›))))
 refine qp J (qg J (qp J (qb ?_)))
 rintro (_ | _) h52
 refine pq2 J (zq7 J (pq2 J (qn (kq1 J) kn (eret (bqr (sqr (fqr J ?_)))))))
 have ho:nd.op=9:=Odt ‹_›
 have hb0:nd.brs=[]:=by
  have g:(decide (nd.op ≠ 4) && decide (nd.op ≠ 8) && decide (nd.brs.length ≠ 0))=false:=by assumption
  have g2:nd.op=4 ∨ nd.op=8 ∨ nd.brs.length=0:=by simpa [Decidable.or_iff_not_imp_left] using g
  exact Lnl (by omega)
 have hhd:=head_cut (ds:=c.decls) (fs:=c.funs) (n:=nd.n) (ty:=nd.ty) (decide_eq_true ho)
 first
 | exact sorts_post (want:=[0,1]) (by rw [ho];rfl) (by omega) (by omega) hb0 (hhd.trans (if_pos ⟨‹_›,Odt ‹_›⟩)) hc1 hP
 | exact none_post h0 hK1 hc1 (hhd.trans (if_neg (fun q=>by first | exact absurd q.1 (of_decide_eq_false ‹_›) | exact absurd q.1 (Bool.eq_false_iff.1 ‹_›) | exact absurd q.2 (of_decide_eq_false ‹_›) | exact absurd q.2 (Bool.eq_false_iff.1 ‹_›))))
 refine qp rfl (qp rfl (qg rfl (qp rfl (qg rfl (hlda rfl rfl (lc rfl (lc rfl (ln rfl))) (qg rfl (qp rfl (qg rfl (qp rfl (qg rfl (qp rfl (qg rfl (hbsl rfl rfl (lc rfl (lc rfl (ln rfl))) (qg rfl (hcall rfl rfl rfl (sorts_c _ c k i0 i1 X A (left - 1) deep nd.args [0,1] hza ⟨hd1,by have g:decide (4000 < deep)=false:=‹_›;simp at g;omega⟩ ⟨by have g:decide (left - 1 < 0)=false:=‹_›;simp at g;omega,by omega⟩ hK1 H1) ?_)))))))))))))))
 rintro _ S2 ⟨b,left',rfl,hP⟩
 refine pq2 J (qn (kq1 J) kn (eret (bqr (sqr (fqr J ?_)))))
 have ho:nd.op=9:=Odt ‹_›
 have hb0:nd.brs=[]:=by
  have g:(decide (nd.op ≠ 4) && decide (nd.op ≠ 8) && decide (nd.brs.length ≠ 0))=false:=by assumption
  have g2:nd.op=4 ∨ nd.op=8 ∨ nd.brs.length=0:=by simpa [Decidable.or_iff_not_imp_left] using g
  exact Lnl (by omega)
 have hhd:=head_cut (ds:=c.decls) (fs:=c.funs) (n:=nd.n) (ty:=nd.ty) (decide_eq_true ho)
 first
 | exact sorts_post (want:=[0,1]) (by rw [ho];rfl) (by omega) (by omega) hb0 (hhd.trans (if_pos ⟨‹_›,Odt ‹_›⟩)) hc1 hP
 | exact none_post h0 hK1 hc1 (hhd.trans (if_neg (fun q=>by first | exact absurd q.1 (of_decide_eq_false ‹_›) | exact absurd q.1 (Bool.eq_false_iff.1 ‹_›) | exact absurd q.2 (of_decide_eq_false ‹_›) | exact absurd q.2 (Bool.eq_false_iff.1 ‹_›))))
 refine qp J (qn (kq7 J) (kq2 J) (ecT J (er (pq3 J (qb ?_)))))
 rintro (_ | _) h53
 refine qp J (zq4 J (pq2 J (qn (kq1 J) kn (eret (bqr (sqr (fqr J ?_)))))))
 have ho:nd.op=1:=Odt ‹_›
 have hl:leafOp nd.op=true:=by rw [ho];rfl
 have hb0:nd.brs=[]:=by
  have g:(decide (nd.op ≠ 4) && decide (nd.op ≠ 8) && decide (nd.brs.length ≠ 0))=false:=by assumption
  have g2:nd.op=4 ∨ nd.op=8 ∨ nd.brs.length=0:=by simpa [Decidable.or_iff_not_imp_left] using g
  exact Lnl (by omega)
 have hhd:=head_int (ds:=c.decls) (fs:=c.funs) (n:=nd.n) (ty:=nd.ty) (decide_eq_true ho)
 have hl0:0 ≤ left - 1:=by have g:decide (left - 1 < 0)=false:=‹_›;simpa using g
 have hd0:deep ≤ 4000:=by have g:decide (4000 < deep)=false:=‹_›;simpa using g
 first
 | exact none_post h0 hK1 hc1 (hhd.trans (if_neg (fun q=>by first | exact absurd q (of_decide_eq_false ‹_›) | exact absurd q (Bool.eq_false_iff.1 ‹_›))))
 | (refine leaf_post hl hl0 hd0 hK1 hc1 ?_
    have hh2:=hhd.trans (if_pos (Odt ‹_›))
    rw [vN_eq,hh2,hb0]
    simp [vNs_nil,vBs_nil,ho])
 refine qp J (qg J (qp J (qg J (qp J (qg J (qp J (qg J (pq3 J (qn (kq1 J) kn (eret (bqr (sqr (fqr J ?_)))))))))))))
 have ho:nd.op=1:=Odt ‹_›
 have hl:leafOp nd.op=true:=by rw [ho];rfl
 have hb0:nd.brs=[]:=by
  have g:(decide (nd.op ≠ 4) && decide (nd.op ≠ 8) && decide (nd.brs.length ≠ 0))=false:=by assumption
  have g2:nd.op=4 ∨ nd.op=8 ∨ nd.brs.length=0:=by simpa [Decidable.or_iff_not_imp_left] using g
  exact Lnl (by omega)
 have hhd:=head_int (ds:=c.decls) (fs:=c.funs) (n:=nd.n) (ty:=nd.ty) (decide_eq_true ho)
 have hl0:0 ≤ left - 1:=by have g:decide (left - 1 < 0)=false:=‹_›;simpa using g
 have hd0:deep ≤ 4000:=by have g:decide (4000 < deep)=false:=‹_›;simpa using g
 first
 | exact none_post h0 hK1 hc1 (hhd.trans (if_neg (fun q=>by first | exact absurd q (of_decide_eq_false ‹_›) | exact absurd q (Bool.eq_false_iff.1 ‹_›))))
 | (refine leaf_post hl hl0 hd0 hK1 hc1 ?_
    have hh2:=hhd.trans (if_pos (Odt ‹_›))
    rw [vN_eq,hh2,hb0]
    simp [vNs_nil,vBs_nil,ho])
 refine qp J (qn (kq5 J) (kq2 J) (ecT J (er (qp J (qn (kq1 J) kn (eret (sqr (fqr J (no_post h0 hK1 hc1 fun h=>?_)))))))))
 have n1:=nNodes_pos nd
 have d1:=nDepth_pos nd
 have h2:=h.2.1
 have h3:=h.2.2
 first
 | (have g:decide (left - 1 < 0)=true:=by assumption
    simp at g;omega)
 | (have g:decide (4000 < deep)=true:=by assumption
    simp at g;omega)
 refine qp J (zq2 J (qp J (qn (kq5 J) (kq2 J) (ecT J (er (qp J (qn (kq1 J) kn (eret (sqr (fqr J (no_post h0 hK1 hc1 fun h=>?_)))))))))))
 have n1:=nNodes_pos nd
 have d1:=nDepth_pos nd
 have h2:=h.2.1
 have h3:=h.2.2
 first
 | (have g:decide (left - 1 < 0)=true:=by assumption
    simp at g;omega)
 | (have g:decide (4000 < deep)=true:=by assumption
    simp at g;omega)
 all_goals
  have ho:nd.op=4 ∨ nd.op=8:=Odt ‹_›
  have hhd:=head_match (op:=nd.op) (ds:=c.decls) (fs:=c.funs) (n:=nd.n) (ty:=nd.ty) (by rcases ho with h | h <;> simp [h])
  first
  | (rw [hda] at hhd
     exact brs_post ho ha (hhd.trans (if_pos ⟨by have g:(d.codata == decide (nd.op=4))=true:=‹_›;simpa using g,Odt ‹_›⟩)) hc1 hP)
  | (refine no_post h0 hK1 hc1 fun h=>?_
     obtain ⟨want,xs,e1,e2,_⟩:=vN_some h.1
     rw [hhd] at e1
     split at e1
     ·rename_i d' hd'
      split at e1
      ·rename_i q
       simp only [Oie,Pie] at e1
       obtain ⟨rfl,rfl⟩:=e1
       have hbd:=declAt_bounds hd'
       first
       | exact absurd q.2 (of_decide_eq_false ‹_›)
       | (have g:decide (((nd.args.map Node.enc).length:Int)=0)=false:=‹_›;have:=vNs_len e2
          simp at this
          simp [this] at g;done)
       | (have g:decide (1 ≤ nd.ty)=false:=‹_›;simp at g;omega)
       | (have g:typedOk c.decls nd.ty=false:=‹_›;simp [typedOk] at g;omega)
       | (have g:(d.codata == decide (nd.op=4))=false:=‹_›;rw [hda] at hd'
          cases hd'
          rw [q.1] at g
          simp at g)
      cases e1
     cases e1)
theorem valid_c (c:Core) (hc:CoreSz c) (a:Node):a.sz ≤ 2 ^ 40 → VC c a:=by
 induction a using Node.ind with
 | h a h1 h2 =>
   intro hz s k i0 i1 X A left deep hK h0 h00 hd1 hd2
   exact valid_c0 c hc a hz (fun b hb=>h1 b hb (by have:=Node.sz_arg hb;omega)) (fun b hb=>h2 b hb (by have:=Node.sz_br hb;have:=b.sz_body;omega)) s k i0 i1 X A left deep hK h0 h00 hd1 hd2
theorem take_map3 {α:Type} {g:α → Bool} {l:List α} {i:Nat} {a:α} (ha:l[i]?=some a):((l.take i).map g).map B ++ [B (g a)]=((l.take (i + 1)).map g).map B:=by simp [List.take_add_one,ha]
theorem vN_all (ds:List Decl) (fs:List CFun) (a:Node):∀ X A:Int → Bool,vN ds fs a X A=true → nAll a=nNodes a:=by
 induction a using Node.ind with
 | h a h1 h2 =>
   intro X A h
   obtain ⟨want,xs,hh,e1,e2,_⟩:=vN_some h
   have k1:∀ (l:List Node) (ws:List Int) (X A:Int → Bool),(∀ b ∈ l,b ∈ a.args) → vNs ds fs l ws X A=true → szL nAll l=szL nNodes l:=by
    intro l
    induction l with
    | nil=>intros;rfl
    | cons b l ih =>
      intro ws X A hm hv
      cases ws with
      | nil=>simp [vNs] at hv
      | cons w ws =>
        simp only [vNs,Bae] at hv
        simp only [szL]
        rw [h1 b (hm b (by simp)) X A hv.1.2,ih ws X A (fun q hq=>hm q (by simp [hq])) hv.2]
   have k2:∀ (l:List Br) (ws:List Xtor) (X A:Int → Bool),(∀ b ∈ l,b ∈ a.brs) → vBs ds fs l ws X A=true → szL (fun b=>nAll b.body) l=szL (fun b=>nNodes b.body) l:=by
    intro l
    induction l with
    | nil=>intros;rfl
    | cons b l ih =>
      intro ws X A hm hv
      cases ws with
      | nil=>simp [vBs] at hv
      | cons w ws =>
        simp only [vBs,vB_eq,Bae] at hv
        simp only [szL]
        rw [h2 b (hm b (by simp)) _ _ hv.1.2,ih ws X A (fun q hq=>hm q (by simp [hq])) hv.2]
   rw [nAll_eq,nNodes_eq]
   have e3:=k1 a.args want _ _ (fun _ h=>h) e1
   have e4:=k2 a.brs xs _ _ (fun _ h=>h) e2
   split
   ·rename_i hl
    have l1:=vNs_len e1
    have l2:=vBs_len e2
    have hw:want=[] ∧ xs=[]:=by
     simp only [leafOp,Bool.or_eq_true,Dte] at hl
     by_cases ho:a.op=0 ∨ a.op=5
     ·rw [head_var (decide_eq_true ho)] at hh
      split at hh
      ·simp only [Oie,Pie] at hh;exact ⟨hh.1.symm,hh.2.symm⟩
      cases hh
     have ho1:a.op=1:=by omega
     rw [head_int (decide_eq_true ho1)] at hh
     split at hh
     ·simp only [Oie,Pie] at hh;exact ⟨hh.1.symm,hh.2.symm⟩
     cases hh
    rw [hw.1] at l1
    rw [hw.2] at l2
    rw [Lnl l1,Lnl l2]
    rfl
   rw [e3,e4]
def pScope (w:Bool) (g:CFun):Int → Bool:=addsV w (fun _=>false) g.vars (g.params.map fun a=>a.co)
theorem addsV_par (w:Bool):∀ (ps:List Arg) (vs:List Int) (X:Int → Bool) (n:Int),vs.length=ps.length → addsV w X vs (ps.map fun a=>a.co) n=(X n || (parOf w (ps.zip vs)).any fun v=>decide (n=v))
 | [],[],X,n,_=>by simp [addsV,parOf]
 | [],_ :: _,X,n,h=>by simp at h
 | _ :: _,[],X,n,h=>by simp at h
 | a :: ps,v :: vs,X,n,h=>by
   rw [List.map_cons,addsV,List.headD_cons,List.tail_cons,addsV_par w ps vs _ n (by simpa using h)]
   simp only [parOf,List.zip_cons_cons,List.filter_cons]
   by_cases hc:a.co=w
   ·simp only [hc,if_true,beq_self_eq_true,List.map_cons,List.any_cons,addV]
    cases decide (n=v) <;> cases X n <;> simp
   have:(a.co == w)=false:=by simpa using hc
   simp [hc,this]
theorem pScope_eq (w:Bool) (g:CFun) (h:g.vars.length=g.params.length):pScope w g=bodyScope w g:=by
 funext n
 unfold pScope bodyScope
 rw [addsV_par w _ _ _ _ h,addAll_pos _ Bn_zero]
 simp [pos]
def BodP (c:Core) (l:List CFun) (left:Int):Prop:=(∀ g ∈ l,sortOf g.body.op=2 ∧ vN c.decls c.funs g.body (pScope false g) (pScope true g)=true ∧ nDepth g.body ≤ 4000) ∧ (szL (fun g=>nNodes g.body) l:Int) ≤ left
theorem bod_cons {c:Core} {g:CFun} {l:List CFun} {left:Int} (h:sortOf g.body.op=2 ∧ vN c.decls c.funs g.body (pScope false g) (pScope true g)=true ∧ (nNodes g.body:Int) ≤ left ∧ 1 + (nDepth g.body:Int) ≤ 4001):BodP c (g :: l) left ↔ BodP c l (left - nNodes g.body):=by
 obtain ⟨h1,h2,h3,h4⟩:=h
 simp only [BodP,szL,List.mem_cons,forall_eq_or_imp]
 constructor
 ·rintro ⟨⟨_,a⟩,b⟩;exact ⟨a,by omega⟩
 rintro ⟨a,b⟩;exact ⟨⟨⟨h1,h2,by omega⟩,a⟩,by omega⟩
theorem bod_no {c:Core} {g:CFun} {l:List CFun} {left:Int} (h:BodP c (g :: l) left):sortOf g.body.op=2 ∧ vN c.decls c.funs g.body (pScope false g) (pScope true g)=true ∧ (nNodes g.body:Int) ≤ left ∧ 1 + (nDepth g.body:Int) ≤ 4001:=by
 obtain ⟨a,b⟩:=h
 have q:=a g (by simp)
 simp only [szL] at b
 exact ⟨q.1,q.2.1,by omega,by omega⟩
theorem szL_le_mem {l:List CFun} {g:CFun} (h:g ∈ l):nNodes g.body ≤ szL (fun g=>nNodes g.body) l:=szL_mem (f:=fun (g:CFun)=>nNodes g.body) h
theorem coreOk_iff (c:Core):coreOk c=true ↔ declsValid c.decls=true ∧ headsOk c=true ∧ BodP c c.funs 30000:=by
 simp only [coreOk,Bae,Dte,List.all_eq_true,bodyOk,BodP]
 constructor
 ·rintro ⟨⟨⟨h1,h2⟩,h3⟩,h4⟩
  refine ⟨h1,h2,fun g hg=>?_,by omega⟩
  have hp:=headsOk_mem h2 g hg
  obtain ⟨⟨⟨_,a2⟩,a3⟩,a4⟩:=h3 g hg
  rw [pScope_eq _ _ hp.2,pScope_eq _ _ hp.2]
  exact ⟨a3,a4,a2⟩
 rintro ⟨h1,h2,h3,h4⟩
 refine ⟨⟨⟨h1,h2⟩,fun g hg=>?_⟩,by omega⟩
 have hp:=headsOk_mem h2 g hg
 obtain ⟨a1,a2,a3⟩:=h3 g hg
 have hm:=szL_le_mem hg
 have ha:=vN_all _ _ _ _ _ a2
 rw [pScope_eq _ _ hp.2,pScope_eq _ _ hp.2] at a2
 exact ⟨⟨⟨by omega,a3⟩,a1⟩,a2⟩
theorem cV_l2 {x3 x4:AV} {cs6:List AV} (c:Core) (k:Nat) (l:List Arg) (o:Own) (i:Nat) (hi:i ≤ l.length) (hs:l.length ≤ 2 ^ 40) {x37 x38 x39:AV} {n:Nat} {v:Nat → Bool} {D:List (Nat × List AV)} {S:Sg} {Q:Ex → Fr → Prop}
 (hlv:Can o v) (hX:∀ j n' v' o',(l.drop i).all (parOk c.decls.length k)=true → Q (.exit 2) ⟨upd (upd (upd (upd (upd (upd (upd (upd (upd (upd (upd (upd (upd ((fun _=>none)) 76 (some (.val (B false)))) 75 (some (.val (I j)))) 74 (some (.val (I (l.map Arg.enc).length)))) 73 (some (.val (.slice .none 2 (l.map Arg.enc))))) 39 (some (.val x39))) 38 (some (.val x38))) 37 (some (.val x37))) 7 (some (.val (.slice o' 1 ((l.map (fun (a:Arg)=>a.co)).map B))))) 6 (some (.loc 6 0))) 5 (some (.val (I k)))) 4 (some (.val x4))) 3 (some (.val x3))) 1 (some (.loc 1 0)),upd (upd ((fun _=>none)) 6 (some (cs6))) 1 (some (Core.cs c)),n',v',D,S⟩) (hR:∀ n' v',(l.drop i).all (parOk c.decls.length k)=false → Q .ret ⟨upd ((fun _=>none)) 2 (some (.val (B false))),(fun _=>none),n',v',D,S⟩):EX (callL p) (.loop F19_l2) ⟨upd (upd (upd (upd (upd (upd (upd (upd (upd (upd (upd (upd ((fun _=>none)) 75 (some (.val (I i)))) 74 (some (.val (I (l.map Arg.enc).length)))) 73 (some (.val (.slice .none 2 (l.map Arg.enc))))) 39 (some (.val x39))) 38 (some (.val x38))) 37 (some (.val x37))) 7 (some (.val (.slice o 1 (((l.take i).map (fun (a:Arg)=>a.co)).map B))))) 6 (some (.loc 6 0))) 5 (some (.val (I k)))) 4 (some (.val x4))) 3 (some (.val x3))) 1 (some (.loc 1 0)),upd (upd ((fun _=>none)) 6 (some (cs6))) 1 (some (Core.cs c)),n,v,D,S⟩ Q:=by
 refine eloop (er (qp J (qb ?_)))
 rintro (_ | _) h1
 refine qn (kq13 J) (kq2 J) (eseq (ecF J (eexit (sqx ?_))))
 have e:l.take i=l:=List.take_of_length_le (by simp at h1 ⊢;omega)
 rw [e]
 exact hX _ _ _ _ (by rw [List.drop_eq_nil_of_le (by simp at h1 ⊢;omega)];rfl)
 refine qn (kq13 J) (kq2 J) (eseq (ecT J (eskip (sqn (eseq (eblock (er ?_)))))))
 have hlt:i < l.length:=by simpa using h1
 obtain ⟨a,ha⟩:=get_of_lt hlt
 have hd:=drop_cons ha
 refine hia (y:=Arg.enc a) rfl rfl (by omega) (by simp [ha]) rfl (hlda rfl rfl (lc rfl (lc rfl (ln rfl))) (hal (dc (dc (dc (dc (dc (dc (dc (dc (dc (dc (dc (dc (dc (dc (dc dn rfl) rfl) rfl) rfl) rfl) rfl) rfl) rfl) rfl) rfl) rfl) rfl) rfl) rfl) rfl) (hstl rfl rfl rfl rfl (Nlb rfl) (lc rfl (lc rfl (ln rfl))) (qk (kc rfl (kc rfl (kc rfl (kc rfl (kc rfl (kc rfl (kc rfl (kc rfl (kc rfl (kc rfl (kc rfl (kc rfl (kc rfl kn))))))))))))) (kc rfl (kc rfl (kc rfl kn))) (sqn (eseq (eseq (ereg (qp rfl (qp rfl (qp rfl (qb ?_))))))))))))
 rintro (_ | _) h2
 refine qp J (qg J (qp J (qg J (qp J (qg J (qp J (qg J (qp J (qg J (qp J (qg J (qp J (qb ?_)))))))))))))
 rintro (_ | _) h3
 refine pq2 J (qg J (qp J (qg J (qp J (qb ?_)))))
 rintro (_ | _) h4
 refine qg rfl (qp rfl (zq7 rfl (qg rfl (pq2 rfl (qn (kq14 rfl) (kq3 rfl) (ecF rfl (eskip (sqn (ereg (pq3 rfl (hbsl rfl rfl (lq1 rfl) (hapC rfl rfl hlv (by simp) (by simp;omega) (take_map3 ha) ?_))))))))))))
 rotate_left
 refine qg J (qp J (qg J (qp J (qg J (qp J (qb ?_))))))
 rintro (_ | _) h5
 refine qg J (qp J (qg J (qp J (qg J (qp J (qg J (qp J (qb ?_))))))))
 rintro (_ | _) h6
 refine qg rfl (qp rfl (qg rfl (pq2 rfl (qn (kq14 rfl) (kq3 rfl) (ecF rfl (eskip (sqn (ereg (pq3 rfl (hbsl rfl rfl (lq1 rfl) (hapC rfl rfl hlv (by simp) (by simp;omega) (take_map3 ha) ?_)))))))))))
 rotate_left
 refine qg J (qp J (qg J (pq2 J (qn (kq14 J) (kq3 J) (ecT J (er (qp J (qn (kq1 J) kn (eret (sqr (bqr (sqr ?_))))))))))))
 have e:parOk c.decls.length k a=false:=by
  clear hX hR
  simp_all [parOk,-List.all_eq_true,-List.all_eq_false,-List.any_eq_true,-List.any_eq_false] <;> omega
 exact hR _ _ (by rw [hd,List.all_cons,e,Bfa])
 refine qg J (qp J (zq3 J (qg J (qp J (qg J (pq2 J (qn (kq14 J) (kq3 J) (ecT J (er (qp J (qn (kq1 J) kn (eret (sqr (bqr (sqr ?_)))))))))))))))
 have e:parOk c.decls.length k a=false:=by
  clear hX hR
  simp_all [parOk,-List.all_eq_true,-List.all_eq_false,-List.any_eq_true,-List.any_eq_false] <;> omega
 exact hR _ _ (by rw [hd,List.all_cons,e,Bfa])
 refine pq2 J (zq10 J (zq1 J (qp J (qn (kq14 J) (kq3 J) (ecT J (er (qp J (qn (kq1 J) kn (eret (sqr ?_))))))))))
 refine bqr (sqr ?_)
 have e:parOk c.decls.length k a=false:=by
  clear hX hR
  simp_all [parOk,-List.all_eq_true,-List.all_eq_false,-List.any_eq_true,-List.any_eq_false] <;> omega
 exact hR _ _ (by rw [hd,List.all_cons,e,Bfa])
 refine qp J (zq6 J (pq2 J (zq10 J (zq1 J (qp J (qn (kq14 J) (kq3 J) (ecT J ?_)))))))
 refine er (qp J (qn (kq1 J) kn (eret (sqr (bqr (sqr ?_))))))
 have e:parOk c.decls.length k a=false:=by
  clear hX hR
  simp_all [parOk,-List.all_eq_true,-List.all_eq_false,-List.any_eq_true,-List.any_eq_false] <;> omega
 exact hR _ _ (by rw [hd,List.all_cons,e,Bfa])
 all_goals
  intro v' hv1 hv2
  refine qp J (qk (kq12 J) (kq2 J) (bqn (sqn (ereg (hadd J J (i64w (by omega)) (qp J (qk (kq12 J) (kq2 J) ?_)))))))
  have e:parOk c.decls.length k a=true:=by
   clear hX hR
   simp_all [parOk,-List.all_eq_true,-List.all_eq_false,-List.any_eq_true,-List.any_eq_false] <;> omega
  exact cV_l2 c k l (.tip n) (i + 1) (by omega) hs hv1 (fun j n' v' o' h=>hX j n' v' o' (by rw [hd,List.all_cons,e,h];rfl)) (fun n' v' h=>hR n' v' (by rw [hd,List.all_cons,h,Bool.and_false]))
termination_by l.length - i
decreasing_by all_goals omega
theorem cV_l1 {pm:Nat} (c:Core) (l:List CFun) (hpar:∀ g ∈ l,g.params.length ≤ 2 ^ 40) (hfv:∀ g ∈ l,g.vars.length ≤ 2 ^ 40) (k:Nat) (i:Nat) (hi:i ≤ l.length) (hs:l.length ≤ 2 ^ 40) {n:Nat} {v:Nat → Bool} {D:List (Nat × List AV)} {S:Sg} {Q:Ex → Fr → Prop}
 (hml:pm < S.nx) (hM:S.ob pm=some (.map .str (setS ((l.take i).map CFun.name)))) (hQ:QOK S) (hX:∀ n' v' j S',funsOk c.decls.length i ((l.take i).map CFun.name) (l.drop i)=true → Chg (·=pm) S S' → Q (.exit 0) ⟨upd (upd (upd (upd (upd (upd (upd ((fun _=>none)) 40 (some (.val (B false)))) 39 (some (.val (I j)))) 38 (some (.val (I (l.map CFun.enc).length)))) 37 (some (.val (.slice .none 8 (l.map CFun.enc))))) 4 (some (.val (.ptr k 0)))) 3 (some (.val (.map pm)))) 1 (some (.loc 1 0)),upd ((fun _=>none)) 1 (some (Core.cs c)),n',v',D,S'⟩)
 (hR:∀ n' v' S',funsOk c.decls.length i ((l.take i).map CFun.name) (l.drop i)=false → Chg (·=pm) S S' → Q .ret ⟨upd ((fun _=>none)) 2 (some (.val (B false))),(fun _=>none),n',v',D,S'⟩):EX (callL p) (.loop F19_l1) ⟨upd (upd (upd (upd (upd (upd ((fun _=>none)) 39 (some (.val (I i)))) 38 (some (.val (I (l.map CFun.enc).length)))) 37 (some (.val (.slice .none 8 (l.map CFun.enc))))) 4 (some (.val (.ptr k 0)))) 3 (some (.val (.map pm)))) 1 (some (.loc 1 0)),upd ((fun _=>none)) 1 (some (Core.cs c)),n,v,D,S⟩ Q:=by
 refine eloop (er (qp J (qb ?_)))
 rintro (_ | _) h1
 refine qn (kq7 J) (kq1 J) (eseq (ecF J (eexit (sqx ?_))))
 exact hX _ _ _ _ (by rw [List.drop_eq_nil_of_le (by simp at h1 ⊢;omega)];rfl) (Chg.refl _)
 refine qn (kq7 J) (kq1 J) (eseq (ecT J (eskip (sqn (eseq (eblock (er (qp J ?_))))))))
 have hlt:i < l.length:=by simpa using h1
 obtain ⟨a,ha⟩:=get_of_lt hlt
 have hd:=drop_cons ha
 refine hia (y:=.agg (Str a.name :: encArgs a.params :: ints a.vars :: a.body.cs)) rfl rfl (by omega) (by simp [ha,Node.enc_eq,Br.enc_eq,CFun.enc_eq]) rfl (hlda rfl rfl (lc rfl (lc rfl (lc rfl (lc rfl (lc rfl (lc rfl (lc rfl (lc rfl (ln rfl))))))))) (hal (dc (dc (dc (dc (dc (dc (dc (dc (dc (dc dn rfl) rfl) rfl) rfl) rfl) rfl) rfl) rfl) rfl) rfl) (qp rfl (hstl rfl rfl rfl rfl (Nlb rfl) (lc rfl (lc rfl (lc rfl (lc rfl (lc rfl (lc rfl (lc rfl (lc rfl (ln rfl))))))))) (qk (kc rfl (kc rfl (kc rfl (kc rfl (kc rfl (kc rfl (kc rfl (kc rfl kn)))))))) (kc rfl (kc rfl kn)) (sqn (eseq (eseq (ereg (qp rfl (qp rfl (hcall rfl rfl rfl (dName_c _ hQ a.name) ?_))))))))))))
 rintro _ _ ⟨rfl,hq⟩
 obtain rfl:=hq.symm
 refine qb ?_
 rintro (_ | _) h2
 refine pq2 J (zq4 J (pq2 J (zq4 J (pq2 J (zq7 J (qp J (qn (kq9 J) (kq2 J) ?_)))))))
 refine ecT J (er (qp J (qn (kq1 J) kn (eret (sqr (bqr (sqr ?_)))))))
 rotate_left
 refine pq2 J (qg J (qp J (qg J (qp J (qg J (qp J (qg J (hlk J J J hM ?_))))))))
 rw [setS_get]
 refine qb ?_
 rintro (_ | _) h3
 refine pq2 J (qg J (qp J (qg J (qp J (qg J (qp J (qg J (qp J (qb ?_)))))))))
 rintro (_ | _) h4
 refine pq2 J (qg J (qp J (qg J (qp J (qg J (qp J (qg J (qp J (qg J (qp J (qg J (qp J (qg J (qp J (qb ?_)))))))))))))))
 rintro (_ | _) h5
 refine qp J (qn (kq9 J) (kq2 J) (ecF J (eskip (sqn (er (pq3 J (hmu J J J J hM ?_)))))))
 rw [show (AV.lit (.bool true)).er=B true from rfl,setS_add]
 refine qn (kq8 J) (kq2 J) (er (qp J (qn (kq9 J) (kq2 J) (eseq (er (pq4 J (qn (kq12 J) (kq2 J) (eblock ?_))))))))
 refine cV_l2 c i a.params .full 0 (by omega) (by have:=hpar a (Lmg ha);omega) trivial ?_ ?_
 intro j2 n1 v1 o1 hj
 refine bqx (sqn (er (pq3 J (hcall J J J (binds_c _ a.vars (a.params.map fun (a:Arg)=>a.co) (hfv a (Lmg ha))) ?_))))
 rintro _ S1 ⟨rfl,hx1⟩
 refine qb ?_
 rintro (_ | _) h6
 refine qp J (qn (kq7 J) (kq1 J) (ecT J (er (qp J (qn (kq1 J) kn (eret (bqr (sqr ?_))))))))
 rotate_left
 refine qp J (qn (kq7 J) (kq1 J) (ecF J (eskip (bqn (sqn (ereg (hadd J J (i64w (by omega)) (qp J (qk (kq6 J) (kq1 J) ?_)))))))))
 have e:(l.take (i + 1)).map CFun.name=(l.take i).map CFun.name ++ [a.name]:=by simp [List.take_add_one,ha]
 have g1:(decide (a.vars.length=(a.params.map fun (a:Arg)=>a.co).length) && distinctOk [] (a.vars.zip (a.params.map fun (a:Arg)=>a.co)))=true:=by assumption
 have g2:nameOk a.name=true:=by assumption
 have g3:(((l.take i).map CFun.name).any fun y=>decide (y=a.name))=false:=by assumption
 have g4:a.params.all (parOk c.decls.length i)=true:=by simpa using hj
 have g5:a.params.length ≤ 6:=by simp at h4;omega
 simp only [Bae,Dte,List.length_map] at g1
 have e2:funOk c.decls.length i ((l.take i).map CFun.name) a=true:=by
  unfold funOk
  rw [any_comm,g2,g3,g4,decide_eq_true g5,decide_eq_true g1.1,g1.2]
  rfl
 have hy:funsOk c.decls.length i ((l.take i).map CFun.name) (l.drop i)=funsOk c.decls.length (i + 1) ((l.take (i + 1)).map CFun.name) (l.drop (i + 1)):=by
  rw [hd,e]
  simp only [funsOk,e2,Bta]
 have hcc:Chg (·=pm) S S1:=((Chg.refl (X:=(·=pm)) S).set (i:=pm) (o:=.map .str (setS ((l.take i).map CFun.name ++ [a.name]))) fun _=>rfl).trans hx1.chg
 exact cV_l1 c l hpar hfv k (i + 1) (by omega) hs (Nat.lt_of_lt_of_le hml hcc.nx) (by rw [e];exact (hx1.ob pm hml).trans set_ob) (by rw [QOK,hcc.Q];exact hQ) (fun n' v' j S' h c2=>hX n' v' j S' (hy.trans h) (hcc.trans c2)) (fun n' v' S' h c2=>hR n' v' S' (hy.trans h) (hcc.trans c2))
 intro n1 v1 hj
 refine bqr (sqr (bqr (sqr ?_)))
 rotate_left
 refine qp J (qn (kq9 J) (kq2 J) (ecT J (er (qp J (qn (kq1 J) kn (eret (sqr (bqr (sqr ?_)))))))))
 rotate_left
 refine pq2 J (zq7 J (qp J (qn (kq9 J) (kq2 J) (ecT J (er (qp J (qn (kq1 J) kn (eret (sqr (bqr (sqr ?_)))))))))))
 rotate_left
 refine pq2 J (zq4 J (pq2 J (zq7 J (qp J (qn (kq9 J) (kq2 J) (ecT J (er (qp J (qn (kq1 J) kn ?_)))))))))
 refine eret (sqr (bqr (sqr ?_)))
 rotate_left
 all_goals
  first
  | (have e2:funOk c.decls.length i ((l.take i).map CFun.name) a=false:=by
      rw [Bool.eq_false_iff]
      intro hf
      simp only [funOk,Bae,Bool.not_eq_true',Dte] at hf
      obtain ⟨⟨⟨⟨⟨f1,f2⟩,f3⟩,f4⟩,f5⟩,f6⟩:=hf
      rw [any_comm] at f5
      rw [f1] at h2;cases h2
     exact hR _ _ _ (by rw [hd];simp only [funsOk,e2,Bfa]) (Chg.refl _))
  | (have e2:funOk c.decls.length i ((l.take i).map CFun.name) a=false:=by
      rw [Bool.eq_false_iff]
      intro hf
      simp only [funOk,Bae,Bool.not_eq_true',Dte] at hf
      obtain ⟨⟨⟨⟨⟨f1,f2⟩,f3⟩,f4⟩,f5⟩,f6⟩:=hf
      rw [any_comm] at f5
      rw [f5] at h3;cases h3
     exact hR _ _ _ (by rw [hd];simp only [funsOk,e2,Bfa]) (Chg.refl _))
  | (have e2:funOk c.decls.length i ((l.take i).map CFun.name) a=false:=by
      rw [Bool.eq_false_iff]
      intro hf
      simp only [funOk,Bae,Bool.not_eq_true',Dte] at hf
      obtain ⟨⟨⟨⟨⟨f1,f2⟩,f3⟩,f4⟩,f5⟩,f6⟩:=hf
      rw [any_comm] at f5
      simp at h4;omega
     exact hR _ _ _ (by rw [hd];simp only [funsOk,e2,Bfa]) (Chg.refl _))
  | (have e2:funOk c.decls.length i ((l.take i).map CFun.name) a=false:=by
      rw [Bool.eq_false_iff]
      intro hf
      simp only [funOk,Bae,Bool.not_eq_true',Dte] at hf
      obtain ⟨⟨⟨⟨⟨f1,f2⟩,f3⟩,f4⟩,f5⟩,f6⟩:=hf
      rw [any_comm] at f5
      simp at h5;omega
     exact hR _ _ _ (by rw [hd];simp only [funsOk,e2,Bfa]) (Chg.refl _))
  | (have e2:funOk c.decls.length i ((l.take i).map CFun.name) a=false:=by
      rw [Bool.eq_false_iff]
      intro hf
      simp only [funOk,Bae,Bool.not_eq_true',Dte] at hf
      obtain ⟨⟨⟨⟨⟨f1,f2⟩,f3⟩,f4⟩,f5⟩,f6⟩:=hf
      rw [any_comm] at f5
      rw [show a.params.all (parOk c.decls.length i)=false from hj] at f6;cases f6
     exact hR _ _ _ (by rw [hd];simp only [funsOk,e2,Bfa]) ((Chg.refl S).set fun _=>rfl))
  | (have e2:funOk c.decls.length i ((l.take i).map CFun.name) a=false:=by
      rw [Bool.eq_false_iff]
      intro hf
      simp only [funOk,Bae,Bool.not_eq_true',Dte] at hf
      obtain ⟨⟨⟨⟨⟨f1,f2⟩,f3⟩,f4⟩,f5⟩,f6⟩:=hf
      rw [any_comm] at f5
      have g1:(decide (a.vars.length=(a.params.map fun (a:Arg)=>a.co).length) && distinctOk [] (a.vars.zip (a.params.map fun (a:Arg)=>a.co)))=false:=by assumption
      rw [f4,List.length_map,decide_eq_true f3] at g1;cases g1
     exact hR _ _ _ (by rw [hd];simp only [funsOk,e2,Bfa]) (((Chg.refl (X:=(·=pm)) S).set (i:=pm) (o:=.map .str (setS ((l.take i).map CFun.name ++ [a.name]))) fun _=>rfl).trans hx1.chg))
termination_by l.length - i
decreasing_by all_goals omega
theorem cV_l3 (c:Core) (hc:CoreSz c) (l:List CFun) (hpar:∀ g ∈ l,g.params.length ≤ 6 ∧ g.vars.length=g.params.length) (hbz:∀ g ∈ l,g.body.sz ≤ 2 ^ 40) (k:Nat) (i:Nat) (hi:i ≤ l.length) (hs:l.length ≤ 2 ^ 40) {n:Nat} {v:Nat → Bool} {D:List (Nat × List AV)} {S:Sg} {Q:Ex → Fr → Prop}
 (left:Int) (h0:0 ≤ left ∧ left ≤ 2 ^ 40) (hkl:k < S.nx) (hk:S.ob k=some (.row [SL 3 (c.decls.map Decl.enc),SL 8 (c.funs.map CFun.enc),I left])) (hX:∀ j S',BodP c (l.drop i) left → Chg (·=k) S S' → Q (.exit 4) ⟨upd (upd (upd (upd (upd ((fun _=>none)) 119 (some (.val (B false)))) 118 (some (.val (I j)))) 117 (some (.val (I (l.map CFun.enc).length)))) 116 (some (.val (.slice .none 8 (l.map CFun.enc))))) 4 (some (.val (.ptr k 0))),(fun _=>none),n,v,D,S'⟩)
 (hR:∀ S',¬ BodP c (l.drop i) left → Chg (·=k) S S' → Q .ret ⟨upd ((fun _=>none)) 2 (some (.val (B false))),(fun _=>none),n,v,D,S'⟩):EX (callL p) (.loop F19_l3) ⟨upd (upd (upd (upd ((fun _=>none)) 118 (some (.val (I i)))) 117 (some (.val (I (l.map CFun.enc).length)))) 116 (some (.val (.slice .none 8 (l.map CFun.enc))))) 4 (some (.val (.ptr k 0))),(fun _=>none),n,v,D,S⟩ Q:=by
 refine eloop (er (qp J (qb ?_)))
 rintro (_ | _) h1
 refine qn (kq5 J) kn (eseq (ecF J (eexit (sqx ?_))))
 exact hX _ _ (by rw [List.drop_eq_nil_of_le (by simp at h1 ⊢;omega)];exact ⟨by simp,by simp [szL];omega⟩) (Chg.refl _)
 refine qn (kq5 J) kn (eseq (ecT J (eskip (sqn (eseq (eblock (er ?_)))))))
 have hlt:i < l.length:=by simpa using h1
 obtain ⟨a,ha⟩:=get_of_lt hlt
 have hd:=drop_cons ha
 refine hia (y:=.agg (Str a.name :: encArgs a.params :: ints a.vars :: a.body.cs)) rfl rfl (by omega) (by simp [ha,Node.enc_eq,Br.enc_eq,CFun.enc_eq]) rfl (hlda rfl rfl (lc rfl (lc rfl (lc rfl (lc rfl (lc rfl (lc rfl (lc rfl (lc rfl (ln rfl))))))))) (hal (dc (dc (dc (dc (dc (dc (dc dn rfl) rfl) rfl) rfl) rfl) rfl) rfl) (hstl rfl rfl rfl rfl (Nlb rfl) (lc rfl (lc rfl (lc rfl (lc rfl (lc rfl (lc rfl (lc rfl (lc rfl (ln rfl))))))))) (qk (kc rfl (kc rfl (kc rfl (kc rfl (kc rfl kn))))) (kc rfl kn) (sqn (eseq (ereg (hcall rfl rfl rfl (cNewScope_c _ [] [] (by simp) (by simp)) ?_))))))))
 rintro _ S1 ⟨i0,i1,rfl,hS1,hx1,hi0,hi1⟩
 have hp:=hpar a (Lmg ha)
 have hK1:KV c k i0 i1 (fun _=>false) (fun _=>false) left S1:=⟨(hx1.ob k hkl).trans hk,hS1,Nat.lt_of_lt_of_le hkl hx1.nx,by omega,by omega⟩
 refine hal (dq6 J) (hstl J J J J (Nlb J) (lq2 J) (qn (kq6 J) (kq2 J) (er (hlda J J (lq2 J) (pq4 J (hcall J J J (sides_c _ a.params (by omega)) ?_))))))
 rintro _ _ ⟨rfl,hq⟩
 obtain rfl:=hq.symm
 rw [show a.params.map (fun a=>B a.co)=(a.params.map fun (q:Arg)=>q.co).map B from by simp]
 refine hcall rfl rfl rfl (enter_c _ i0 i1 _ _ a.vars (a.params.map fun (q:Arg)=>q.co) (by simp;omega) (by omega) hS1) ?_
 rintro _ S2 ⟨bs,ba,rfl,hE,hc2,hbs,hba⟩
 have hK2:=en_kv hK1 hE hc2
 refine qn (kq6 J) (kq2 J) (er (pq3 J (hcall J J J (Sort_c _ _) ?_)))
 rintro _ _ ⟨rfl,hq⟩
 obtain rfl:=hq.symm
 refine qp J (qb ?_)
 rintro (_ | _) h2
 refine qp J (qg J (qp J (qg J (hlda J J (lq2 J) (qg J (qp J (qg J (hlda J J (lq5 J) (qg J (hcall J J J (valid_c c hc a.body (hbz a (Lmg ha)) _ k i0 i1 _ _ left 1 hK2 h0.1 h0.2 (by omega) (by omega)) ?_))))))))))
 rintro _ S3 ⟨b,left',rfl,hK3,hc3,q3,q4,q5,q6⟩
 refine qb ?_
 rintro (_ | _) h3
 refine qg J (pq2 J (qn (kq5 J) kn (ecT J (er (qp J (qn (kq1 J) kn (eret (bqr (sqr ?_)))))))))
 rotate_left
 refine qg J (pq2 J (qn (kq5 J) kn (ecF J (eskip (bqn (sqn (ereg (hadd J J (i64w (by omega)) (qp J (qk (kq4 J) kn ?_))))))))))
 have g1:(!decide (sortOf a.body.op=2))=false:=by assumption
 have g2:b=true:=by assumption
 subst g2
 have hv:=q5.1 rfl
 have hl':=q6 rfl
 have hz1:0 ≤ left':=by have:=hv.2.1;omega
 have hall:=And.intro (show sortOf a.body.op=2 by simpa using g1) hv
 have hcc:Chg (·=k) S S3:=(((hx1.chg (X:=K3 k i0 i1)).trans (hc2.mono fun i _ h=>.inr h)).trans hc3).mono fun i hi h=>by rcases h with h | h | h;exact h;omega;omega
 exact cV_l3 c hc l hpar hbz k (i + 1) (by omega) hs left' ⟨hz1,by omega⟩ hK3.kl hK3.hk (fun j S' h c2=>hX j S' (by rw [hd];exact (bod_cons hall).2 (hl' ▸ h)) (hcc.trans c2)) (fun S' h c2=>hR S' (by rw [hd];exact fun q=>h (hl' ▸ (bod_cons hall).1 q)) (hcc.trans c2))
 refine qp J (zq6 J (qp J (qn (kq5 J) kn (ecT J (er (qp J (qn (kq1 J) kn (eret (bqr (sqr ?_))))))))))
 rotate_left
 all_goals
  first
  | (have g1:(!decide (sortOf a.body.op=2))=true:=by assumption
     refine hR _ (fun h=>?_) (((hx1.chg (X:=K3 k i0 i1)).trans (hc2.mono fun i _ h=>.inr h)).mono fun i hi h=>by rcases h with h | h | h;exact h;omega;omega)
     rw [hd] at h
     have:=(bod_no h).1
     simp [this] at g1)
  | (refine hR _ (fun h=>?_) ((((hx1.chg (X:=K3 k i0 i1)).trans (hc2.mono fun i _ h=>.inr h)).trans hc3).mono fun i hi h=>by rcases h with h | h | h;exact h;omega;omega)
     rw [hd] at h
     have:=q5.2 (bod_no h).2
     simp_all)
termination_by l.length - i
decreasing_by all_goals omega
theorem cValid_c (s:Sg) (hQ:QOK s) (c:Core) (hc:CoreSz c) (hfv:∀ g ∈ c.funs,g.vars.length ≤ 2 ^ 40) (hbz:∀ g ∈ c.funs,g.body.sz ≤ 2 ^ 40):HC p N19_ [.agg (Core.cs c)] s (fun r s'=>r=[B (coreOk c)] ∧ Ext s s'):=by
 refine hcf J f19_ J ?_
 simp only [chainOf]
 refine er (hbox (dc dn J) J (lq2 J) (qp J (qn (kq1 J) (kq1 J) (eseq (er (pq2 J (hcall J J J (dValid_c _ hQ c.decls hc.dl) ?_)))))))
 rintro _ S1 ⟨rfl,hx1⟩
 refine qb ?_
 rintro (_ | _) h1
 refine pq2 J (zq4 J (pq2 J (zq4 J (qp J (qn (kq2 J) (kq1 J) (ecT J (er (qp J (qn (kq1 J) kn (eret (sqr (fqr J ?_))))))))))))
 rotate_left
 refine pq2 J (qg J (qp J (qg J (qp J (qg J (qp J (qg J (qp J (qb ?_)))))))))
 rintro (_ | _) h2
 refine pq2 J (qg J (qp J (qg J (qp J (qg J (qp J (qg J (qp J (qb ?_)))))))))
 rintro (_ | _) h3
 refine qp J (qn (kq2 J) (kq1 J) (ecF J (eskip (sqn (er (hmkm (qp J (qn (kq2 J) (kq1 J) (er (pq4 J (hbuild J J (lq3 J) (hboxo J (lq3 J) (qp J (qn (kq3 J) (kq1 J) (eseq ?_)))))))))))))))
 refine er (pq4 J (qn (kq6 J) (kq1 J) (eblock ?_)))
 have e1:(S1.new (.map .str fun _=>none)).nx=S1.nx + 1:=rfl
 refine cV_l1 (pm:=S1.nx) c c.funs hc.ga hfv (S1.new (.map .str fun _=>none)).nx 0 (by omega) (by simp at h3;omega) (Nat.lt_of_lt_of_le (Nat.lt_succ_self _) (Nat.le_succ _)) (by rw [new_lt (by omega),List.take_zero,List.map_nil,setS_nil];exact new_ob) (by rw [QOK];show hasInt (S1.Q _ 0)=true;rw [hx1.Q];exact hQ) ?_ ?_
 intro n2 v2 j S2 hj hc2
 refine bqx (sqn (eseq (er (pq4 J (qn (kq4 J) kn (eblock ?_))))))
 have hH:headsOk c=true:=by
  unfold headsOk
  rw [show funsOk c.decls.length 0 [] c.funs=true from by simpa using hj]
  simp at h2 h3 ⊢
  omega
 have hk2:=hc2.ob (S1.nx + 1) (by simp only [Sg.new];omega) (by omega)
 refine cV_l3 c hc c.funs (headsOk_mem hH) hbz (S1.nx + 1) 0 (by omega) (by simp at h3;omega) 30000 (by omega) (Nat.lt_of_lt_of_le (by simp only [Sg.new];omega) hc2.nx) (hk2.trans (by rw [show S1.nx + 1=(S1.new (.map .str fun _=>none)).nx from rfl,new_ob];rfl)) ?_ ?_
 intro j3 S3 hb hc3
 refine bqx (sqn (er (qp J (qn (kq1 J) kn (eret (fqr J ?_))))))
 rotate_left
 intro S3 hb hc3
 refine bqr (sqr (fqr J ?_))
 rotate_left
 intro n2 v2 S2 hj hc2
 refine bqr (sqr (fqr J ?_))
 rotate_left
 refine qp J (qn (kq2 J) (kq1 J) (ecT J (er (qp J (qn (kq1 J) kn (eret (sqr (fqr J ?_))))))))
 rotate_left
 refine pq2 J (zq4 J (qp J (qn (kq2 J) (kq1 J) (ecT J (er (qp J (qn (kq1 J) kn (eret (sqr (fqr J ?_))))))))))
 rotate_left
 all_goals
  first
  | (have e:coreOk c=false:=by
      rw [Bool.eq_false_iff]
      intro h
      have q:=(coreOk_iff c).1 h
      rw [q.1] at h1
      cases h1
     exact ⟨by rw [e];rfl,hx1⟩)
  | (have e:coreOk c=false:=by
      rw [Bool.eq_false_iff]
      intro h
      have q:=((coreOk_iff c).1 h).2.1
      simp only [headsOk,Bae,Dte] at q
      simp at h2
      omega
     exact ⟨by rw [e];rfl,hx1⟩)
  | (have e:coreOk c=false:=by
      rw [Bool.eq_false_iff]
      intro h
      have q:=((coreOk_iff c).1 h).2.1
      simp only [headsOk,Bae,Dte] at q
      simp at h3
      omega
     exact ⟨by rw [e];rfl,hx1⟩)
  | (have e:coreOk c=false:=by
      rw [Bool.eq_false_iff]
      intro h
      have q:=((coreOk_iff c).1 h).2.1
      simp only [headsOk,Bae] at q
      have g:funsOk c.decls.length 0 [] c.funs=false:=by simpa using hj
      rw [g] at q
      cases q.2
     exact ⟨by rw [e];rfl,hx1.trans (((Chg.new (Chg.new (Chg.refl S1))).trans hc2).ext fun i h=>by omega)⟩)
  | (have e:coreOk c=true:=(coreOk_iff c).2 ⟨by assumption,hH,by simpa using hb⟩
     exact ⟨by rw [e];rfl,hx1.trans (((Chg.new (Chg.new (Chg.refl S1))).trans ((hc2.mono (fun i _ h=>.inl h)).trans (hc3.mono fun i _ h=>.inr h))).ext (X:=fun i=>i=S1.nx ∨ i=S1.nx + 1) fun i h=>by omega)⟩)
  | (have e:coreOk c=false:=by
      rw [Bool.eq_false_iff]
      intro h
      exact hb (by simpa using ((coreOk_iff c).1 h).2.2)
     exact ⟨by rw [e];rfl,hx1.trans (((Chg.new (Chg.new (Chg.refl S1))).trans ((hc2.mono (fun i _ h=>.inl h)).trans (hc3.mono fun i _ h=>.inr h))).ext (X:=fun i=>i=S1.nx ∨ i=S1.nx + 1) fun i h=>by omega)⟩)
def setT (X:Int → Option Int) (v:Int) (o:Option Int):Int → Option Int:=fun n=>if n=v then o else X n
abbrev bindT (X:Int → Option Int) (v t:Int):Int → Option Int:=setT X v (some t)
def bindsT (w:Bool) (X:Int → Option Int):List Int → List Arg → (Int → Option Int)
 | v :: vs,a :: as=>bindsT w (if a.co=w then bindT X v a.ty else X) vs as
 | _,_=>X
def dom (X:Int → Option Int):Int → Bool:=fun n=>(X n).isSome
theorem dom_bind (X:Int → Option Int) (v t:Int):dom (bindT X v t)=addV (dom X) v:=by
 funext n
 simp only [dom,bindT,setT,addV]
 by_cases h:n=v <;> simp [h]
theorem dom_binds (w:Bool):∀ (vs:List Int) (as:List Arg) (X:Int → Option Int),vs.length=as.length → dom (bindsT w X vs as)=addsV w (dom X) vs (as.map fun a=>a.co)
 | [],_,X,_=>by simp [bindsT,addsV]
 | _ :: _,[],X,h=>by simp at h
 | v :: vs,a :: as,X,h=>by
   rw [bindsT,dom_binds w vs as _ (by simpa using h),List.map_cons,addsV,List.headD_cons,List.tail_cons]
   split
   ·rw [dom_bind]
   rfl
theorem vNs_mem {ds:List Decl} {fs:List CFun}:∀ {l:List Node} {ws:List Int} {X A:Int → Bool},vNs ds fs l ws X A=true → ∀ b ∈ l,vN ds fs b X A=true
 | [],_,_,_,_,b,hb=>by cases hb
 | a :: l,[],_,_,h,_,_=>by simp [vNs] at h
 | a :: l,w :: ws,X,A,h,b,hb=>by
   simp only [vNs,Bae] at h
   cases hb with
   | head=>exact h.1.2
   | tail _ hb=>exact vNs_mem h.2 b hb
theorem fun_dom {g:CFun} (w:Bool) (h:g.vars.length=g.params.length):dom (bindsT w (fun _=>none) g.vars g.params)=pScope w g:=by
 rw [dom_binds _ _ _ _ h]
 rfl
theorem core_body {c:Core} (h:coreOk c=true):∀ g ∈ c.funs,g.vars.length=g.params.length ∧ g.params.length ≤ 6 ∧ sortOf g.body.op=2 ∧ vN c.decls c.funs g.body (dom (bindsT false (fun _=>none) g.vars g.params)) (dom (bindsT true (fun _=>none) g.vars g.params))=true:=by
 intro g hg
 obtain ⟨_,h2,h3⟩:=(coreOk_iff c).1 h
 have hp:=headsOk_mem h2 g hg
 have hb:=h3.1 g hg
 rw [fun_dom _ hp.2,fun_dom _ hp.2]
 exact ⟨hp.2,hp.1,hb.1,hb.2.1⟩
theorem SArgs_l (l:List Arg) (i:Nat) (hi:i ≤ l.length) (hs:l.length ≤ 2 ^ 40) {n:Nat} {v:Nat → Bool} {D:List (Nat × List AV)} {S:Sg} {Q:Ex → Fr → Prop}
 (hX:∀ j,Q (.exit 0) ⟨upd (upd (upd (upd (upd ((fun _=>none)) 14 (some (.val (B false)))) 13 (some (.val (I j)))) 12 (some (.val (I (l.map Arg.enc).length)))) 1 (some (.val (encArgs l)))) 0 (some (.val (.slice .none 2 (l.map Arg.enc)))),(fun _=>none),n,v,D,S⟩):EX (callL p) (.loop F39_l1) ⟨upd (upd (upd (upd ((fun _=>none)) 13 (some (.val (I i)))) 12 (some (.val (I (l.map Arg.enc).length)))) 1 (some (.val (encArgs l)))) 0 (some (.val (.slice .none 2 (l.map Arg.enc)))),(fun _=>none),n,v,D,S⟩ Q:=by
 refine eloop (er (qp J (qb ?_)))
 rintro (_ | _) h1
 ·refine qn (kq5 J) kn (eseq (ecF J (eexit (sqx ?_))))
  exact hX _
 refine qn (kq5 J) kn (eseq (ecT J (eskip (sqn (eseq (eblock (er (pq2 J (qn (kq5 J) kn (er (pq2 J ?_)))))))))))
 have hlt:i < l.length:=by simpa using h1
 obtain ⟨a,ha⟩:=get_of_lt hlt
 have hd:=drop_cons ha
 refine hia (y:=Arg.enc a) rfl rfl (by omega) (by simp [ha]) rfl (hlda rfl rfl (lc rfl (lc rfl (ln rfl))) (qp rfl (qp rfl (hia (y:=Arg.enc a) rfl rfl (by omega) (by simp [ha]) rfl (hlda rfl rfl (lc rfl (lc rfl (ln rfl))) (qp rfl (qb ?_)))))))
 rintro (_ | _) h2
 ·refine qn (kq5 J) kn (ecF J (eskip (bqn (sqn (ereg (hadd J J (i64w (by omega)) (qp J (qk (kq4 J) kn ?_))))))))
  exact SArgs_l l (i + 1) (by omega) hs  hX
 refine qn (kq5 J) kn (ecT J (er (qp J (qn (kq1 J) kn (eret (bqr (sqr ?_)))))))
 exfalso
 simp_all
termination_by l.length - i
decreasing_by all_goals omega
theorem SArgs_c (s:Sg) (l:List Arg) (hz:l.length ≤ 2 ^ 40):HC p N39_ [encArgs l,encArgs l] s (fun r s'=>r=[B true] ∧ s'=s):=by
 refine hcf J f39_ J ?_
 simp only [chainOf]
 refine er (qp J (qn (kq2 J) kn (eseq (er (pq5 J (qb ?_))))))
 rintro (_ | _) h1
 ·refine qn (kq3 J) kn (ecF J (eskip (sqn (eseq (er (pq3 J (qn (kq4 J) kn (eblock (SArgs_l l 0 (by omega) hz ?_)))))))))
  intro j
  refine bqx (sqn (er (qp J (qn (kq1 J) kn (eret (fqr J ?_))))))
  first
  | exact ⟨rfl,rfl⟩
  | (exfalso;simp at h1)
 refine qn (kq3 J) kn (ecT J (er (qp J (qn (kq1 J) kn (eret (sqr (fqr J ?_)))))))
 first
 | exact ⟨rfl,rfl⟩
 | (exfalso;simp at h1)
def ExactC (b:Node):Prop:=∀ s:Sg,HC p N41_ [.agg b.cs,.agg b.cs] s (fun r s'=>r=[B true] ∧ s'=s)
theorem exact_l1 (a:Node) (H:∀ b ∈ a.args,ExactC b) (hs:a.args.length ≤ 2 ^ 40) (i:Nat) (hi:i ≤ a.args.length) {n:Nat} {v:Nat → Bool} {D:List (Nat × List AV)} {S:Sg} {Q:Ex → Fr → Prop}
 (hX:∀ j,Q (.exit 0) ⟨upd (upd (upd (upd (upd ((fun _=>none)) 50 (some (.val (B false)))) 49 (some (.val (I j)))) 48 (some (.val (I (a.args.map Node.enc).length)))) 3 (some (.loc 3 0))) 2 (some (.loc 2 0)),upd (upd ((fun _=>none)) 3 (some (a.cs))) 2 (some (a.cs)),n,v,D,S⟩):EX (callL p) (.loop F41_l1) ⟨upd (upd (upd (upd ((fun _=>none)) 49 (some (.val (I i)))) 48 (some (.val (I (a.args.map Node.enc).length)))) 3 (some (.loc 3 0))) 2 (some (.loc 2 0)),upd (upd ((fun _=>none)) 3 (some (a.cs))) 2 (some (a.cs)),n,v,D,S⟩ Q:=by
 refine eloop (er (qp J (qb ?_)))
 rintro (_ | _) h1
 ·refine qn (kq5 J) (kq2 J) (eseq (ecF J (eexit (sqx ?_))))
  exact hX _
 refine qn (kq5 J) (kq2 J) (eseq (ecT J (eskip (sqn (eseq (eblock (er (pq2 J (qn (kq5 J) (kq2 J) (er (pq3 J ?_)))))))))))
 have hlt:i < a.args.length:=by simpa using h1
 obtain ⟨b,hb⟩:=get_of_lt hlt
 refine hia (y:=.agg (b.cs)) rfl rfl (by omega) (by simp [hb,Node.enc_eq]) rfl (hlda rfl rfl (lc rfl (lc rfl (lc rfl (lc rfl (lc rfl (ln rfl)))))) (qp rfl (qp rfl (qp rfl (hia (y:=.agg (b.cs)) rfl rfl (by omega) (by simp [hb,Node.enc_eq]) rfl (hlda rfl rfl (lc rfl (lc rfl (lc rfl (lc rfl (lc rfl (ln rfl)))))) (hcall rfl rfl rfl (H b (Lmg hb) _) ?_)))))))
 rintro _ _ ⟨rfl,rfl⟩
 refine qb ?_
 rintro (_ | _) h2
 ·refine qp J (qn (kq5 J) (kq2 J) (ecT J (er (qp J (qn (kq1 J) kn (eret (bqr (sqr ?_))))))))
  exfalso
  simp_all
 refine qp J (qn (kq5 J) (kq2 J) (ecF J (eskip (bqn (sqn (ereg (hadd J J (i64w (by omega)) (qp J (qk (kq4 J) (kq2 J) ?_)))))))))
 exact exact_l1 a H hs (i + 1) (by omega) hX
termination_by a.args.length - i
decreasing_by all_goals omega
theorem exact_l2 (a:Node) (hz:a.sz ≤ 2 ^ 40) (H:∀ b ∈ a.brs,ExactC b.body) (i:Nat) (hi:i ≤ a.brs.length) {n:Nat} {v:Nat → Bool} {D:List (Nat × List AV)} {S:Sg} {Q:Ex → Fr → Prop}
 (hX:∀ j,Q (.exit 2) ⟨upd (upd (upd (upd (upd ((fun _=>none)) 69 (some (.val (B false)))) 68 (some (.val (I j)))) 67 (some (.val (I (a.brs.map Br.enc).length)))) 66 (some (.val (SL 7 (a.brs.map Br.enc))))) 3 (some (.loc 3 0)),upd ((fun _=>none)) 3 (some (a.cs)),n,v,D,S⟩):EX (callL p) (.loop F41_l2) ⟨upd (upd (upd (upd ((fun _=>none)) 68 (some (.val (I i)))) 67 (some (.val (I (a.brs.map Br.enc).length)))) 66 (some (.val (SL 7 (a.brs.map Br.enc))))) 3 (some (.loc 3 0)),upd ((fun _=>none)) 3 (some (a.cs)),n,v,D,S⟩ Q:=by
 refine eloop (er (qp J (qb ?_)))
 rintro (_ | _) h1
 ·refine qn (kq5 J) (kq1 J) (eseq (ecF J (eexit (sqx ?_))))
  exact hX _
 refine qn (kq5 J) (kq1 J) (eseq (ecT J (eskip (sqn (eseq (eblock (er (qp J ?_))))))))
 have hlt:i < a.brs.length:=by simpa using h1
 have hbs:=a.sz_brs
 obtain ⟨b,hb⟩:=get_of_lt hlt
 have hbz:=Node.sz_br (Lmg hb)
 have hv:=b.sz_vars
 have hv2:=b.sz_co
 refine hia (y:=.agg (ints b.vars :: bools b.co :: b.body.cs)) rfl rfl (by omega) (by simp [hb,Br.enc_eq]) rfl (hlda rfl rfl (lc rfl (lc rfl (lc rfl (lc rfl (lc rfl (lc rfl (lc rfl (ln rfl)))))))) (hal (dc (dc (dc (dc (dc (dc (dc (dc dn rfl) rfl) rfl) rfl) rfl) rfl) rfl) rfl) (qp rfl (hstl rfl rfl rfl rfl (Nlb rfl) (lc rfl (lc rfl (lc rfl (lc rfl (lc rfl (lc rfl (lc rfl (ln rfl)))))))) (qk (kc rfl (kc rfl (kc rfl (kc rfl (kc rfl (kc rfl kn)))))) (kc rfl (kc rfl kn)) (sqn (eseq (ereg (qp rfl (qp rfl (qp rfl (hia (y:=.agg (ints b.vars :: bools b.co :: b.body.cs)) rfl rfl (by omega) (by simp [hb,Br.enc_eq]) rfl (hlda rfl rfl (lc rfl (lc rfl (lc rfl (lc rfl (lc rfl (lc rfl (lc rfl (ln rfl)))))))) (hal (dc (dc (dc (dc (dc (dc (dc (dc (dc (dc (dc dn rfl) rfl) rfl) rfl) rfl) rfl) rfl) rfl) rfl) rfl) rfl) (hstl rfl rfl rfl rfl (Nlb rfl) (lc rfl (lc rfl (lc rfl (lc rfl (lc rfl (lc rfl (lc rfl (ln rfl)))))))) (qk (kc rfl (kc rfl (kc rfl (kc rfl (kc rfl (kc rfl kn)))))) (kc rfl (kc rfl (kc rfl kn))) (sqn (eseq (ereg (qp rfl (qp rfl (qp rfl (qp rfl ?_)))))))))))))))))))))))
 refine hcall J J J (SameInts_c _ _ _ (by omega)) ?_
 rintro _ _ ⟨rfl,rfl⟩
 refine qb ?_
 rintro (_ | _) h2
 ·refine pq2 J (zq6 J (pq2 J (zq6 J (qp J (qn (kq5 J) (kq1 J) (ecT J (er (qp J (qk (kq1 J) kn ?_)))))))))
  refine sqn (eret (bqr (sqr ?_)))
  exfalso
  simp_all
 refine pq2 J (qg J (qp J (qg J (qp J (qg J (qp J (qg J (qp J (qg J (hcall J J J (SameBools_c _ _ _ (by omega)) ?_))))))))))
 rintro _ _ ⟨rfl,rfl⟩
 refine qb ?_
 rintro (_ | _) h3
 ·refine qg J (pq3 J (zq6 J (qp J (qn (kq5 J) (kq1 J) (ecT J (er (qp J (qn (kq1 J) kn (eret (bqr (sqr ?_)))))))))))
  exfalso
  simp_all
 refine qg J (pq3 J (qg J (qp J (qg J (hlda J J (lq5 J) (qg J (qp J (qg J (hlda J J (lq5 J) (qg J (hcall J J J (H b (Lmg hb) _) ?_)))))))))))
 rintro _ _ ⟨rfl,rfl⟩
 refine qb ?_
 rintro (_ | _) h4
 ·refine qg J (pq2 J (qn (kq5 J) (kq1 J) (ecT J (er (qp J (qn (kq1 J) kn (eret (bqr (sqr ?_)))))))))
  exfalso
  simp_all
 refine qg J (pq2 J (qn (kq5 J) (kq1 J) (ecF J (eskip (bqn (sqn (ereg (hadd J J (i64w (by omega)) (qp J (qk (kq4 J) (kq1 J) ?_))))))))))
 exact exact_l2 a hz H (i + 1) (by omega) hX
termination_by a.brs.length - i
decreasing_by all_goals omega
theorem exact_c0 (a:Node) (hz:a.sz ≤ 2 ^ 40) (H1:∀ b ∈ a.args,ExactC b) (H2:∀ b ∈ a.brs,ExactC b.body) (s:Sg):HC p N41_ [.agg a.cs,.agg a.cs] s (fun r s'=>r=[B true] ∧ s'=s):=by
 refine hcf J f41_ J ?_
 simp only [chainOf]
 refine er (hbox (dq2 J) J (lq5 J) (hbox (dq3 J) J (lq5 J) (qp J (qn (kq2 J) (kq2 J) (eseq (er (pq5 J (qb ?_))))))))
 rintro (_ | _) h1
 refine qp J (qg J (qp J (qg J (qp J (qg J (qp J (qg J (qp J (qg J (qp J (qb ?_)))))))))))
 rintro (_ | _) h2
 refine pq2 J (qg J (qp J (qg J (qp J (qg J (qp J (qg J (qp J (qg J (qp J (qb ?_)))))))))))
 rintro (_ | _) h3
 refine pq2 J (qg J (qp J (qg J (qp J (qg J (qp J (qg J (qp J (qg J (qp J (qg J (qp J (qg J (qp J (qb ?_)))))))))))))))
 rintro (_ | _) h4
 refine pq2 J (qg J (qp J (qg J (qp J (qg J (qp J (qg J (qp J (qg J (qp J (qg J (qp J (qg J (qp J (qb ?_)))))))))))))))
 rintro (_ | _) h5
 refine qp rfl (qk (kc rfl (kc rfl (kc rfl kn))) (kc rfl (kc rfl kn)) (sqn (ecF rfl (eskip (sqn (eseq (eseq (ereg (qp rfl (qp rfl (qp rfl (qp rfl (qk (kc rfl (kc rfl (kc rfl (kc rfl kn)))) (kc rfl (kc rfl kn)) (sqn (eblock (exact_l1 a H1 (by have:=a.sz_args;omega) 0 (by omega) ?_))))))))))))))))
 intro j
 refine bqx (sqn (eseq (er (pq4 J (qn (kq4 J) (kq1 J) (eblock (exact_l2 a hz H2 0 (by omega) ?_)))))))
 intro j
 refine bqx (sqn (er (qp J (qn (kq1 J) kn (eret (fqr J ?_))))))
 rotate_left
 refine qp J (qn (kq3 J) (kq2 J) (ecT J (er (qp J (qn (kq1 J) kn (eret (sqr (fqr J ?_))))))))
 rotate_left
 refine pq2 J (zq7 J (qp J (qn (kq3 J) (kq2 J) (ecT J (er (qp J (qn (kq1 J) kn (eret (sqr (fqr J ?_))))))))))
 rotate_left
 refine pq2 J (zq7 J (pq2 J (zq7 J (qp J (qn (kq3 J) (kq2 J) (ecT J (er ?_)))))))
 refine qp J (qn (kq1 J) kn (eret (sqr (fqr J ?_))))
 rotate_left
 refine pq2 J (zq5 J (pq2 J (zq7 J (pq2 J (zq6 J ?_)))))
 refine zq1 J (qp J (qn (kq3 J) (kq2 J) (ecT J (er (qp J (qn (kq1 J) kn (eret (sqr (fqr J ?_)))))))))
 rotate_left
 refine qp J (zq5 J (pq2 J (zq5 J (pq2 J (zq7 J (pq2 J ?_))))))
 refine zq7 J (qp J (qn (kq3 J) (kq2 J) (ecT J (er (qp J (qn (kq1 J) kn (eret (sqr (fqr J ?_)))))))))
 rotate_left
 all_goals
  first
  | exact ⟨rfl,rfl⟩
  | (exfalso;simp_all)
theorem Exact_c (a:Node) (hz:a.sz ≤ 2 ^ 40):ExactC a:=by
 induction a using Node.ind with
 | h a ih1 ih2 =>
   exact exact_c0 a hz (fun b hb=>ih1 b hb (by have:=Node.sz_arg hb;omega)) (fun b hb=>ih2 b hb (by have:=Node.sz_br hb;have:=b.sz_body;omega))
theorem Xtor.sz_args (x:Xtor):x.args.length < x.sz:=by unfold Xtor.sz;omega
theorem Decl.sz_xtors (d:Decl):szL Xtor.sz d.xtors < d.sz:=by unfold Decl.sz;omega
theorem szL_len' {α:Type} {f:α → Nat} (l:List α) (h:∀ a,1 ≤ f a):l.length ≤ szL f l:=by induction l with
 | nil=>exact Nat.le_refl _
 | cons a l ih=>have:=h a;simp only [szL,List.length_cons];omega
theorem Xtor.one (x:Xtor):1 ≤ x.sz:=by unfold Xtor.sz;omega
theorem Decl.one (d:Decl):1 ≤ d.sz:=by unfold Decl.sz;omega
theorem CFun.one (d:CFun):1 ≤ d.sz:=by unfold CFun.sz;omega
theorem same_l2 (l:List Decl) (hz:szL Decl.sz l ≤ 2 ^ 40) (i:Nat) (hi:i < l.length) (d:Decl) (hd0:l[i]?=some d) (k:Nat) (hk:k ≤ d.xtors.length) {n:Nat} {v:Nat → Bool} {D:List (Nat × List AV)} {S:Sg} {Q:Ex → Fr → Prop}
 (hX:∀ j,Q (.exit 2) ⟨upd (upd (upd (upd (upd (upd (upd (upd (upd ((fun _=>none)) 64 (some (.val (B false)))) 63 (some (.val (I j)))) 62 (some (.val (I (d.xtors.map Xtor.enc).length)))) 61 (some (.val (SL 2 (d.xtors.map Xtor.enc))))) 15 (some (.val (I i)))) 14 (some (.val (I (l.map Decl.enc).length)))) 5 (some (.val (I i)))) 1 (some (.val (SL 3 (l.map Decl.enc))))) 0 (some (.val (SL 3 (l.map Decl.enc)))),(fun _=>none),n,v,D,S⟩):EX (callL p) (.loop F38_l2) ⟨upd (upd (upd (upd (upd (upd (upd (upd ((fun _=>none)) 63 (some (.val (I k)))) 62 (some (.val (I (d.xtors.map Xtor.enc).length)))) 61 (some (.val (SL 2 (d.xtors.map Xtor.enc))))) 15 (some (.val (I i)))) 14 (some (.val (I (l.map Decl.enc).length)))) 5 (some (.val (I i)))) 1 (some (.val (SL 3 (l.map Decl.enc))))) 0 (some (.val (SL 3 (l.map Decl.enc)))),(fun _=>none),n,v,D,S⟩ Q:=by
 refine eloop (er (qp J (qb ?_)))
 rintro (_ | _) h1
 ·refine qn (kq9 J) kn (eseq (ecF J (eexit (sqx ?_))))
  exact hX _
 refine qn (kq9 J) kn (eseq (ecT J (eskip (sqn (eseq (eblock (er (qp J ?_))))))))
 have hlt:k < d.xtors.length:=by simpa using h1
 have hdz:=szL_mem (f:=Decl.sz) (Lmg hd0)
 have hdx:=Decl.sz_xtors d
 have hll:=szL_len' (f:=Decl.sz) l Decl.one
 have hlx:=szL_len' (f:=Xtor.sz) d.xtors Xtor.one
 obtain ⟨x,hx0⟩:=get_of_lt hlt
 have hxz:=szL_mem (f:=Xtor.sz) (Lmg hx0)
 have hxa:=Xtor.sz_args x
 refine hia (y:=Xtor.enc x) rfl rfl (by omega) (by simp [hx0]) rfl (hlda rfl rfl (lc rfl (lc rfl (ln rfl))) (hal (dc (dc (dc (dc (dc (dc (dc (dc (dc (dc (dc (dc dn rfl) rfl) rfl) rfl) rfl) rfl) rfl) rfl) rfl) rfl) rfl) rfl) (qp rfl (hstl rfl rfl rfl rfl (Nlb rfl) (lc rfl (lc rfl (ln rfl))) (qk (kc rfl (kc rfl (kc rfl (kc rfl (kc rfl (kc rfl (kc rfl (kc rfl (kc rfl (kc rfl kn)))))))))) (kc rfl kn) (sqn (eseq (ereg (qp rfl (qp rfl (qp rfl (qp rfl (hia (y:=Decl.enc d) rfl rfl (by omega) (by simp [hd0]) rfl (qp rfl (qp rfl (qp rfl (hia (y:=Xtor.enc x) rfl rfl (by omega) (by simp [hx0]) rfl (qp rfl (qp rfl (qp rfl (qb ?_)))))))))))))))))))))
 rintro (_ | _) h2
 ·refine qp rfl (qg rfl (qp rfl (qg rfl (qp rfl (qg rfl (qp rfl (qg rfl (qp rfl (qg rfl (hia (y:=Decl.enc d) rfl rfl (by omega) (by simp [hd0]) rfl (qg rfl (qp rfl (qg rfl (qp rfl (qg rfl (qp rfl (qg rfl (hia (y:=Xtor.enc x) rfl rfl (by omega) (by simp [hx0]) rfl (qg rfl (qp rfl (qg rfl (qp rfl (qg rfl ?_)))))))))))))))))))))))
  refine hcall J J J (SArgs_c _ _ (by omega)) ?_
  rintro _ _ ⟨rfl,rfl⟩
  refine qb ?_
  rintro (_ | _) h3
  ·refine qg J (pq2 J (qn (kq9 J) kn (ecT J (er (qp J (qn (kq1 J) kn (eret (bqr (sqr ?_)))))))))
   exfalso
   simp_all
  refine qg J (pq2 J (qn (kq9 J) kn (ecF J (eskip (bqn (sqn (ereg (hadd J J (i64w (by omega)) (qp J (qk (kq8 J) kn ?_))))))))))
  exact same_l2 l hz i hi d hd0 (k + 1) (by omega) hX
 refine qp J (zq10 J (zq3 J (qp J (qn (kq9 J) kn (ecT J (er (qp J (qn (kq1 J) kn (eret ?_)))))))))
 refine bqr (sqr ?_)
 exfalso
 simp_all
termination_by d.xtors.length - k
decreasing_by all_goals omega
theorem same_l1 (l:List Decl) (hz:szL Decl.sz l ≤ 2 ^ 40) (i:Nat) (hi:i ≤ l.length) {n:Nat} {v:Nat → Bool} {D:List (Nat × List AV)} {S:Sg} {Q:Ex → Fr → Prop}
 (hX:∀ j,Q (.exit 0) ⟨upd (upd (upd (upd (upd ((fun _=>none)) 16 (some (.val (B false)))) 15 (some (.val (I j)))) 14 (some (.val (I (l.map Decl.enc).length)))) 1 (some (.val (SL 3 (l.map Decl.enc))))) 0 (some (.val (SL 3 (l.map Decl.enc)))),(fun _=>none),n,v,D,S⟩):EX (callL p) (.loop F38_l1) ⟨upd (upd (upd (upd ((fun _=>none)) 15 (some (.val (I i)))) 14 (some (.val (I (l.map Decl.enc).length)))) 1 (some (.val (SL 3 (l.map Decl.enc))))) 0 (some (.val (SL 3 (l.map Decl.enc)))),(fun _=>none),n,v,D,S⟩ Q:=by
 refine eloop (er (qp J (qb ?_)))
 rintro (_ | _) h1
 ·refine qn (kq5 J) kn (eseq (ecF J (eexit (sqx ?_))))
  exact hX _
 refine qn (kq5 J) kn (eseq (ecT J (eskip (sqn (eseq (eblock (er (pq2 J (qn (kq5 J) kn (eseq (er (pq2 J ?_))))))))))))
 have hlt:i < l.length:=by simpa using h1
 have hll:=szL_len' (f:=Decl.sz) l Decl.one
 obtain ⟨d,hd0⟩:=get_of_lt hlt
 refine hia (y:=Decl.enc d) rfl rfl (by omega) (by simp [hd0]) rfl (qp rfl (qp rfl (qp rfl (qp rfl (hia (y:=Decl.enc d) rfl rfl (by omega) (by simp [hd0]) rfl (qp rfl (qp rfl (qp rfl (qb ?_)))))))))
 rintro (_ | _) h2
 ·refine qp rfl (qg rfl (qp rfl (qg rfl (qp rfl (qg rfl (hia (y:=Decl.enc d) rfl rfl (by omega) (by simp [hd0]) rfl (qg rfl (qp rfl (qg rfl (qp rfl (qg rfl (qp rfl (qg rfl (qp rfl (qg rfl (hia (y:=Decl.enc d) rfl rfl (by omega) (by simp [hd0]) rfl (qg rfl (qp rfl (qg rfl (qp rfl (qg rfl (qp rfl (qb ?_)))))))))))))))))))))))
  rintro (_ | _) h3
  ·refine qp rfl (qp rfl (qg rfl (qp rfl (qg rfl (qp rfl (qg rfl (hia (y:=Decl.enc d) rfl rfl (by omega) (by simp [hd0]) rfl (qg rfl (qp rfl (qg rfl (qp rfl (qg rfl (qp rfl (qg rfl (qp rfl (qg rfl (qp rfl (qg rfl (hia (y:=Decl.enc d) rfl rfl (by omega) (by simp [hd0]) rfl (qg rfl (qp rfl (qg rfl (qp rfl ?_)))))))))))))))))))))))
   refine qg J (qp J (qg J (qp J (qb ?_))))
   rintro (_ | _) h4
   ·refine qp rfl (qk (kc rfl (kc rfl (kc rfl (kc rfl (kc rfl (kc rfl kn)))))) kn (sqn (ecF rfl (eskip (sqn (eseq (ereg (qp rfl (qp rfl (hia (y:=Decl.enc d) rfl rfl (by omega) (by simp [hd0]) rfl (qp rfl (qp rfl (qp rfl (qp rfl (qk (kc rfl (kc rfl (kc rfl (kc rfl (kc rfl (kc rfl (kc rfl (kc rfl kn)))))))) kn (sqn (eblock (same_l2 l hz i hlt d hd0 0 (by omega) ?_))))))))))))))))))
    intro j
    refine bqx (bqn (sqn (ereg (hadd J J (i64w (by omega)) (qp J (qk (kq4 J) kn ?_))))))
    exact same_l1 l hz (i + 1) (by omega) hX
   refine qp J (qn (kq6 J) kn (ecT J (er (qp J (qn (kq1 J) kn (eret (sqr (bqr (sqr ?_)))))))))
   exfalso
   simp_all
  refine pq2 J (zq10 J (zq3 J (qp J (qn (kq6 J) kn (ecT J (er (qp J (qn (kq1 J) kn ?_))))))))
  refine eret (sqr (bqr (sqr ?_)))
  exfalso
  simp_all
 refine qp J (zq10 J (zq1 J (pq2 J (zq10 J ?_))))
 refine zq3 J (qp J (qn (kq6 J) kn (ecT J (er (qp J (qn (kq1 J) kn (eret (sqr (bqr (sqr ?_))))))))))
 exfalso
 simp_all
termination_by l.length - i
decreasing_by all_goals omega
theorem Same_c (s:Sg) (l:List Decl) (hz:szL Decl.sz l ≤ 2 ^ 40):HC p N38_ [SL 3 (l.map Decl.enc),SL 3 (l.map Decl.enc)] s (fun r s'=>r=[B true] ∧ s'=s):=by
 refine hcf J f38_ J ?_
 simp only [chainOf]
 refine er (qp J (qn (kq2 J) kn (eseq (er (pq5 J (qb ?_))))))
 rintro (_ | _) h1
 ·refine qn (kq3 J) kn (ecF J (eskip (sqn (eseq (er (pq3 J (qn (kq4 J) kn (eblock (same_l1 l hz 0 (by omega) ?_)))))))))
  intro j
  refine bqx (sqn (er (qp J (qn (kq1 J) kn (eret (fqr J ?_))))))
  first
  | exact ⟨rfl,rfl⟩
  | (exfalso;simp_all)
 refine qn (kq3 J) kn (ecT J (er (qp J (qn (kq1 J) kn (eret (sqr (fqr J ?_)))))))
 first
 | exact ⟨rfl,rfl⟩
 | (exfalso;simp_all)
theorem CFun.sz_bod (f:CFun):f.body.sz < f.sz:=by unfold CFun.sz;omega
theorem CFun.sz_par (f:CFun):f.params.length < f.sz:=by unfold CFun.sz;omega
theorem CFun.sz_var (f:CFun):f.vars.length < f.sz:=by unfold CFun.sz;omega
theorem xcore_l (c:Core) (hz:szL CFun.sz c.funs ≤ 2 ^ 40) (i:Nat) (hi:i ≤ c.funs.length) {n:Nat} {v:Nat → Bool} {D:List (Nat × List AV)} {S:Sg} {Q:Ex → Fr → Prop}
 (hX:∀ j,Q (.exit 0) ⟨upd (upd (upd (upd (upd ((fun _=>none)) 27 (some (.val (B false)))) 26 (some (.val (I j)))) 25 (some (.val (I (c.funs.map CFun.enc).length)))) 24 (some (.val (SL 8 (c.funs.map CFun.enc))))) 3 (some (.loc 3 0)),upd ((fun _=>none)) 3 (some (Core.cs c)),n,v,D,S⟩):EX (callL p) (.loop F11_l1) ⟨upd (upd (upd (upd ((fun _=>none)) 26 (some (.val (I i)))) 25 (some (.val (I (c.funs.map CFun.enc).length)))) 24 (some (.val (SL 8 (c.funs.map CFun.enc))))) 3 (some (.loc 3 0)),upd ((fun _=>none)) 3 (some (Core.cs c)),n,v,D,S⟩ Q:=by
 refine eloop (er (qp J (qb ?_)))
 rintro (_ | _) h1
 ·refine qn (kq5 J) (kq1 J) (eseq (ecF J (eexit (sqx ?_))))
  exact hX _
 refine qn (kq5 J) (kq1 J) (eseq (ecT J (eskip (sqn (eseq (eblock (er (qp J ?_))))))))
 have hlt:i < c.funs.length:=by simpa using h1
 have hll:=szL_len' (f:=CFun.sz) c.funs CFun.one
 obtain ⟨b,hb⟩:=get_of_lt hlt
 have hbz:=szL_mem (f:=CFun.sz) (Lmg hb)
 have hp1:=CFun.sz_par b
 have hp2:=CFun.sz_var b
 have hp3:=CFun.sz_bod b
 refine hia (y:=.agg (Str b.name :: encArgs b.params :: ints b.vars :: b.body.cs)) rfl rfl (by omega) (by simp [hb,CFun.enc_eq]) rfl (hlda rfl rfl (lc rfl (lc rfl (lc rfl (lc rfl (lc rfl (lc rfl (lc rfl (lc rfl (ln rfl))))))))) (hal (dc (dc (dc (dc (dc (dc (dc (dc dn rfl) rfl) rfl) rfl) rfl) rfl) rfl) rfl) (qp rfl (hstl rfl rfl rfl rfl (Nlb rfl) (lc rfl (lc rfl (lc rfl (lc rfl (lc rfl (lc rfl (lc rfl (lc rfl (ln rfl))))))))) (qk (kc rfl (kc rfl (kc rfl (kc rfl (kc rfl (kc rfl kn)))))) (kc rfl (kc rfl kn)) (sqn (eseq (ereg (qp rfl (qp rfl (qp rfl (hia (y:=.agg (Str b.name :: encArgs b.params :: ints b.vars :: b.body.cs)) rfl rfl (by omega) (by simp [hb,CFun.enc_eq]) rfl (hlda rfl rfl (lc rfl (lc rfl (lc rfl (lc rfl (lc rfl (lc rfl (lc rfl (lc rfl (ln rfl))))))))) (hal (dc (dc (dc (dc (dc (dc (dc (dc (dc (dc (dc dn rfl) rfl) rfl) rfl) rfl) rfl) rfl) rfl) rfl) rfl) rfl) (hstl rfl rfl rfl rfl (Nlb rfl) (lc rfl (lc rfl (lc rfl (lc rfl (lc rfl (lc rfl (lc rfl (lc rfl (ln rfl))))))))) (qk (kc rfl (kc rfl (kc rfl (kc rfl (kc rfl (kc rfl kn)))))) (kc rfl (kc rfl (kc rfl kn))) (sqn (eseq (ereg (qp rfl (qp rfl (qp rfl (qp rfl ?_)))))))))))))))))))))))
 refine qp J (qb ?_)
 rintro (_ | _) h2
 ·refine qp J (qg J (qp J (qg J (qp J (qg J (qp J (qg J (qp J (qg J (hcall J J J (SArgs_c _ _ (by omega)) ?_))))))))))
  rintro _ _ ⟨rfl,rfl⟩
  refine qb ?_
  rintro (_ | _) h3
  ·refine qg J (pq3 J (zq6 J (pq2 J (zq6 J (qp J (qn (kq5 J) (kq1 J) (ecT J (er ?_))))))))
   refine qp J (qn (kq1 J) kn (eret (bqr (sqr ?_))))
   exfalso
   simp_all
  refine qg J (pq3 J (qg J (qp J (qg J (qp J (qg J (qp J (qg J (qp J (qg J (hcall J J J (SameInts_c _ _ _ (by omega)) ?_)))))))))))
  rintro _ _ ⟨rfl,rfl⟩
  refine qb ?_
  rintro (_ | _) h4
  ·refine qg J (pq3 J (zq6 J (qp J (qn (kq5 J) (kq1 J) (ecT J (er (qp J (qn (kq1 J) kn (eret (bqr (sqr ?_)))))))))))
   exfalso
   simp_all
  refine qg rfl (qp rfl (qp rfl (qp rfl (qg rfl (qp rfl (qg rfl (hlda rfl rfl (lc rfl (lc rfl (lc rfl (lc rfl (lc rfl (ln rfl)))))) (qg rfl (qp rfl (qg rfl (hlda rfl rfl (lc rfl (lc rfl (lc rfl (lc rfl (lc rfl (ln rfl)))))) (qg rfl (hcall rfl rfl rfl (Exact_c b.body (by have:=CFun.sz_bod b;omega) _) ?_)))))))))))))
  rintro _ _ ⟨rfl,rfl⟩
  refine qb ?_
  rintro (_ | _) h5
  ·refine qg J (pq2 J (qn (kq5 J) (kq1 J) (ecT J (er (qp J (qn (kq1 J) kn (eret (bqr (sqr ?_)))))))))
   exfalso
   simp_all
  refine qg J (pq2 J (qn (kq5 J) (kq1 J) (ecF J (eskip (bqn (sqn (ereg (hadd J J (i64w (by omega)) (qp J (qk (kq4 J) (kq1 J) ?_))))))))))
  exact xcore_l c hz (i + 1) (by omega) hX
 refine qp J (zq6 J (pq2 J (zq6 J (pq2 J (zq6 J (qp J ?_))))))
 refine qn (kq5 J) (kq1 J) (ecT J (er (qp J (qn (kq1 J) kn (eret (bqr (sqr ?_)))))))
 exfalso
 simp_all
termination_by c.funs.length - i
decreasing_by all_goals omega
theorem ExactCore_c (s:Sg) (c:Core) (hz:c.sz ≤ 2 ^ 40):HC p N11_ [.agg (Core.cs c),.agg (Core.cs c)] s (fun r s'=>r=[B true] ∧ s'=s):=by
 have hz1:szL Decl.sz c.decls ≤ 2 ^ 40:=by unfold Core.sz at hz;omega
 have hz2:szL CFun.sz c.funs ≤ 2 ^ 40:=by unfold Core.sz at hz;omega
 refine hcf J f11_ J ?_
 simp only [chainOf]
 refine er (hbox (dq2 J) J (lq2 J) (hbox (dq3 J) J (lq2 J) (qp J (qn (kq2 J) (kq2 J) (eseq (er (pq4 J (hcall J J J (Same_c _ _ hz1) ?_))))))))
 rintro _ _ ⟨rfl,rfl⟩
 refine qb ?_
 rintro (_ | _) h1
 ·refine pq2 J (zq7 J (qp J (qn (kq3 J) (kq2 J) (ecT J (er (qp J (qn (kq1 J) kn (eret (sqr (fqr J ?_))))))))))
  first
  | exact ⟨rfl,rfl⟩
  | (exfalso;simp_all)
 refine pq2 J (qg J (qp J (qg J (qp J (qg J (qp J (qg J (qp J (qg J (qp J (qg J (qp J (qg J (qp J (qb ?_)))))))))))))))
 rintro (_ | _) h2
 ·refine qp J (qn (kq3 J) (kq2 J) (ecF J (eskip (sqn (eseq (er (pq4 J (qn (kq4 J) (kq1 J) (eblock (xcore_l c hz2 0 (by omega) ?_))))))))))
  intro j
  refine bqx (sqn (er (qp J (qn (kq1 J) kn (eret (fqr J ?_))))))
  first
  | exact ⟨rfl,rfl⟩
  | (exfalso;simp_all)
 refine qp J (qn (kq3 J) (kq2 J) (ecT J (er (qp J (qn (kq1 J) kn (eret (sqr (fqr J ?_))))))))
 first
 | exact ⟨rfl,rfl⟩
 | (exfalso;simp_all)
def CanM (n0:Nat) (o:Own) (v:Nat → Bool) (n:Nat):Prop:=o=.full ∨ ∃ t,o=.tip t ∧ n0 ≤ t ∧ t < n ∧ v t=true
theorem CanM.can {n0 n:Nat} {o:Own} {v:Nat → Bool} (h:CanM n0 o v n):Can o v:=by
 rcases h with rfl | ⟨t,rfl,_,_,h⟩
 ·trivial
 exact h
theorem CanM.up {n0 n n1:Nat} {o:Own} {v v1:Nat → Bool} (h:CanM n0 o v n) (hn:n ≤ n1) (hv:∀ t,t < n → v1 t=v t):CanM n0 o v1 n1:=by
 rcases h with rfl | ⟨t,rfl,h1,h2,h3⟩
 ·exact .inl rfl
 exact .inr ⟨t,rfl,h1,by omega,by rw [hv t h2];exact h3⟩
theorem CanM.new {n0 n:Nat} {v:Nat → Bool} (h:Can (.tip n) v) (hn:n0 ≤ n):CanM n0 (.tip n) v (n + 1):=.inr ⟨n,rfl,hn,by omega,h⟩
theorem CanM.old {n0 n:Nat} {o:Own} {v v':Nat → Bool} (h:CanM n0 o v n) (hn:n0 ≤ n) (hv:∀ t,t ≠ n → o ≠ .tip t → v' t=v t):∀ t,t < n0 → v' t=v t:=fun t ht=>by
 refine hv t (by omega) fun e=>?_
 rcases h with rfl | ⟨t',rfl,h1,_,_⟩
 ·cases e
 cases e;omega
theorem hapK {c:Caller} {l:List AIns} {E:Nat → Option TV} {L:Nat → Option (List AV)} {n:Nat} {v:Nat → Bool} {D:List (Nat × List AV)} {S:Sg} {Q:Fr → Prop} {d sz by_:Nat} {s x:AO} {o':Own} {ys:List AV}
 (h1:evV E s=some (.slice .full sz [])) (h2:evV E x=some (.slice o' sz ys)) (hlen:ys.length * by_ ≤ 2 ^ 47)
 (k:∀ o1 n1 v1,n ≤ n1 → (∀ t,t < n → v1 t=v t) → HL c l ⟨upd E d (some (.val (.slice o1 sz ys))),L,n1,v1,D,S⟩ Q):HL c (⟨some d,none,.app sz by_ s x⟩ :: l) ⟨E,L,n,v,D,S⟩ Q:=by
 cases ys with
 | nil=>exact hap0 h1 h2 rfl (k .full n v (Nat.le_refl _) fun _ _=>rfl)
 | cons y ys=>exact hapF h1 h2 (by simp) (by simpa using hlen) fun v' a b=>k (.tip n) (n + 1) v' (by omega) fun t ht=>b t (by omega)
def CopyC (b:Node):Prop:=∀ s:Sg,HC p N47_ [.agg b.cs] s (fun r s'=>r=[.agg b.cs] ∧ s'=s)
theorem copy_l1 (a:Node) (hz:a.sz ≤ 2 ^ 30) (H:∀ b ∈ a.args,CopyC b) (i:Nat) (hi:i ≤ a.args.length) (o:Own) {n:Nat} {v:Nat → Bool} {D:List (Nat × List AV)} {S:Sg} {Q:Ex → Fr → Prop} (hc:CanM 0 o v n)
 (hX:∀ j n' v' o',Q (.exit 0) ⟨upd (upd (upd (upd (upd (upd (upd ((fun _=>none)) 15 (some (.val (B false)))) 14 (some (.val (I j)))) 13 (some (.val (I (a.args.map Node.enc).length)))) 12 (some (.val (SL 5 (a.args.map Node.enc))))) 3 (some (.loc 3 0))) 2 (some (.loc 2 0))) 1 (some (.loc 1 0)),upd (upd (upd ((fun _=>none)) 3 (some ([I a.op,I a.n,I a.ty,.slice o' 5 (a.args.map Node.enc),.slice .full 7 ([])]))) 2 (some ([I 0,I 0,I 0,.slice .full 5 [],.slice .full 7 []]))) 1 (some (a.cs)),n',v',D,S⟩):EX (callL p) (.loop F47_l1) ⟨upd (upd (upd (upd (upd (upd ((fun _=>none)) 14 (some (.val (I i)))) 13 (some (.val (I (a.args.map Node.enc).length)))) 12 (some (.val (SL 5 (a.args.map Node.enc))))) 3 (some (.loc 3 0))) 2 (some (.loc 2 0))) 1 (some (.loc 1 0)),upd (upd (upd ((fun _=>none)) 3 (some ([I a.op,I a.n,I a.ty,.slice o 5 ((a.args.take i).map Node.enc),.slice .full 7 ([])]))) 2 (some ([I 0,I 0,I 0,.slice .full 5 [],.slice .full 7 []]))) 1 (some (a.cs)),n,v,D,S⟩ Q:=by
 refine eloop (er (qp J (qb ?_)))
 rintro (_ | _) h1
 ·refine qn (kq7 J) (kq3 J) (eseq (ecF J (eexit (sqx ?_))))
  have e:a.args.take i=a.args:=List.take_of_length_le (by simp at h1;omega)
  rw [e]
  exact hX _ _ _ _
 refine qn (kq7 J) (kq3 J) (eseq (ecT J (eskip (sqn (eseq (eblock (er ?_)))))))
 have hlt:i < a.args.length:=by simpa using h1
 have hzz:=a.sz_args
 obtain ⟨b,hb⟩:=get_of_lt hlt
 refine hia (y:=.agg b.cs) rfl rfl (by omega) (by simp [hb,Node.enc_eq]) rfl (hlda rfl rfl (lc rfl (lc rfl (lc rfl (lc rfl (lc rfl (ln rfl)))))) (hal (dc (dc (dc (dc (dc (dc (dc (dc (dc dn rfl) rfl) rfl) rfl) rfl) rfl) rfl) rfl) rfl) (hstl rfl rfl rfl rfl (Nlb rfl) (lc rfl (lc rfl (lc rfl (lc rfl (lc rfl (ln rfl)))))) (qk (kc rfl (kc rfl (kc rfl (kc rfl (kc rfl (kc rfl (kc rfl kn))))))) (kc rfl (kc rfl (kc rfl (kc rfl kn)))) (sqn (ereg (qp rfl (qp rfl (hlda rfl rfl (lc rfl (lc rfl (lc rfl (lc rfl (lc rfl (ln rfl)))))) (hcall rfl rfl rfl (H b (Lmg hb) _) ?_))))))))))
 rintro _ _ ⟨rfl,rfl⟩
 refine hbsl (q':=[Node.enc b]) rfl rfl (by rw [Node.enc_eq];rfl) (hapC (r:=(a.args.take (i + 1)).map Node.enc) rfl rfl hc.can (by simp) (by simp;omega) (by simp [List.take_add_one,hb]) ?_)
 intro v1 hc1 hv1
 refine qp J (hstl J J J J (Nlb J) (lq5 J) (qk (kq6 J) (kq3 J) (bqn (sqn (ereg (hadd J J (i64w (by omega)) (qp J (qk (kq6 J) (kq3 J) ?_))))))))
 exact copy_l1 a hz H (i + 1) (by omega) _ (CanM.new hc1 (Nat.zero_le _)) hX
termination_by a.args.length - i
decreasing_by all_goals omega
theorem copy_l2 (a:Node) (hz:a.sz ≤ 2 ^ 30) (H:∀ b ∈ a.brs,CopyC b.body) (o5:Own) (i:Nat) (hi:i ≤ a.brs.length) (o:Own) {n:Nat} {v:Nat → Bool} {D:List (Nat × List AV)} {S:Sg} {Q:Ex → Fr → Prop} (hc:CanM 0 o v n)
 (hX:∀ j n' v' o',Q (.exit 2) ⟨upd (upd (upd (upd (upd (upd ((fun _=>none)) 30 (some (.val (B false)))) 29 (some (.val (I j)))) 28 (some (.val (I (a.brs.map Br.enc).length)))) 27 (some (.val (SL 7 (a.brs.map Br.enc))))) 3 (some (.loc 3 0))) 2 (some (.loc 2 0)),upd (upd ((fun _=>none)) 3 (some ([I a.op,I a.n,I a.ty,.slice o5 5 (a.args.map Node.enc),.slice o' 7 (a.brs.map Br.enc)]))) 2 (some ([I 0,I 0,I 0,.slice .full 5 [],.slice .full 7 []])),n',v',D,S⟩):EX (callL p) (.loop F47_l2) ⟨upd (upd (upd (upd (upd ((fun _=>none)) 29 (some (.val (I i)))) 28 (some (.val (I (a.brs.map Br.enc).length)))) 27 (some (.val (SL 7 (a.brs.map Br.enc))))) 3 (some (.loc 3 0))) 2 (some (.loc 2 0)),upd (upd ((fun _=>none)) 3 (some ([I a.op,I a.n,I a.ty,.slice o5 5 (a.args.map Node.enc),.slice o 7 ((a.brs.take i).map Br.enc)]))) 2 (some ([I 0,I 0,I 0,.slice .full 5 [],.slice .full 7 []])),n,v,D,S⟩ Q:=by
 refine eloop (er (qp J (qb ?_)))
 rintro (_ | _) h1
 ·refine qn (kq6 J) (kq2 J) (eseq (ecF J (eexit (sqx ?_))))
  have e:a.brs.take i=a.brs:=List.take_of_length_le (by simp at h1;omega)
  rw [e]
  exact hX _ _ _ _
 refine qn (kq6 J) (kq2 J) (eseq (ecT J (eskip (sqn (eseq (eblock (er ?_)))))))
 have hlt:i < a.brs.length:=by simpa using h1
 have hbs:=a.sz_brs
 obtain ⟨b,hb⟩:=get_of_lt hlt
 have hbz:=Node.sz_br (Lmg hb)
 have hv1:=b.sz_vars
 have hv2:=b.sz_co
 refine hia (y:=.agg (ints b.vars :: bools b.co :: b.body.cs)) rfl rfl (by omega) (by simp [hb,Br.enc_eq]) rfl (hlda rfl rfl (lc rfl (lc rfl (lc rfl (lc rfl (lc rfl (lc rfl (lc rfl (ln rfl)))))))) (hal (dc (dc (dc (dc (dc (dc (dc (dc dn rfl) rfl) rfl) rfl) rfl) rfl) rfl) rfl) (hstl rfl rfl rfl rfl (Nlb rfl) (lc rfl (lc rfl (lc rfl (lc rfl (lc rfl (lc rfl (lc rfl (ln rfl)))))))) (qk (kc rfl (kc rfl (kc rfl (kc rfl (kc rfl (kc rfl kn)))))) (kc rfl (kc rfl (kc rfl kn))) (sqn (ereg (qp rfl (qp rfl (qp rfl (qp rfl (hapK rfl rfl (by simp;omega) ?_)))))))))))
 intro o1 n1 v1 hn1 hk1
 refine pq2 rfl (hapK rfl rfl (by simp;omega) ?_)
 intro o2 n2 v2 hn2 hk2
 refine qp J (hlda J J (lq5 J) (hcall J J J (H b (Lmg hb) _) ?_))
 rintro _ _ ⟨rfl,rfl⟩
 refine hbuild rfl rfl (lc rfl (lc rfl (lc rfl (lc rfl (lc rfl (lc rfl (lc rfl (ln rfl)))))))) (hbsl (q':=[Br.enc b]) rfl rfl (by rw [Br.enc_eq];rfl) (hapC (r:=(a.brs.take (i + 1)).map Br.enc) rfl rfl ((hc.up hn1 hk1).up hn2 hk2).can (by simp) (by simp;omega) (by simp [List.take_add_one,hb]) ?_))
 intro v3 hc1 hv3
 refine qp J (hstl J J J J (Nlb J) (lq5 J) (qk (kq5 J) (kq2 J) (bqn (sqn (ereg (hadd J J (i64w (by omega)) (qp J (qk (kq5 J) (kq2 J) ?_))))))))
 exact copy_l2 a hz H o5 (i + 1) (by omega) _ (CanM.new hc1 (Nat.zero_le _)) hX
termination_by a.brs.length - i
decreasing_by all_goals omega
theorem copy_c0 (a:Node) (hz:a.sz ≤ 2 ^ 30) (H1:∀ b ∈ a.args,CopyC b) (H2:∀ b ∈ a.brs,CopyC b.body) (s:Sg):HC p N47_ [.agg a.cs] s (fun r s'=>r=[.agg a.cs] ∧ s'=s):=by
 refine hcf J f47_ J ?_
 simp only [chainOf]
 refine er (hbox (dc dn J) J (lq5 J) (hal (dq2 J) (qn (kq2 J) (kq2 J) (er (hlda J J (lq5 J) (hal (dq3 J) (hstl J J J J (Nlb J) (lq5 J) (qn (kq3 J) (kq3 J) (er (qp J (hstl J J J J (Nlb J) (lq5 J) (qp J (hstl J J J J (Nlb J) (lq5 J) (qn (kq3 J) (kq3 J) (eseq (er ?_))))))))))))))))
 refine pq4 J (qn (kq6 J) (kq3 J) (eblock (copy_l1 a hz H1 0 (by omega) .full (.inl J) ?_)))
 intro j n1 v1 o1
 refine bqx (sqn (eseq (er (pq4 J (qn (kq5 J) (kq2 J) (eblock (copy_l2 a hz H2 o1 0 (by omega) .full (.inl J) ?_)))))))
 intro j2 n2 v2 o2
 refine bqx (sqn (er (hlda J J (lq5 J) (hstl J J J J (Nlb J) (lq5 J) (qn (kq1 J) (kq1 J) (eret (fqr J ?_)))))))
 exact ⟨rfl,rfl⟩
theorem Copy_c (a:Node) (hz:a.sz ≤ 2 ^ 30):CopyC a:=by
 induction a using Node.ind with
 | h a ih1 ih2 =>
   exact copy_c0 a hz (fun b hb=>ih1 b hb (by have:=Node.sz_arg hb;omega)) (fun b hb=>ih2 b hb (by have:=Node.sz_br hb;have:=b.sz_body;omega))
theorem dcopy_l2 (l:List Decl) (oo:Own) (xl:List AV) (i:Nat) (d:Decl) (hz:szL Decl.sz l ≤ 2 ^ 30) (hd0:l[i]?=some d) (hll:l.length ≤ 2 ^ 30) (k:Nat) (hk:k ≤ d.xtors.length) (o:Own) (n0:Nat) {v0:Nat → Bool} {n:Nat} {v:Nat → Bool} {D:List (Nat × List AV)} {S:Sg} {Q:Ex → Fr → Prop} (hn:n0 ≤ n) (hv0:∀ t,t < n0 → v t=v0 t) (hc:CanM n0 o v n)
 (hX:∀ j n' v' o',n0 ≤ n' → (∀ t,t < n0 → v' t=v0 t) → Q (.exit 2) ⟨upd (upd (upd (upd (upd (upd (upd (upd (upd (upd ((fun _=>none)) 19 (some (.val (B false)))) 18 (some (.val (I j)))) 17 (some (.val (I (d.xtors.map Xtor.enc).length)))) 16 (some (.val (SL 2 (d.xtors.map Xtor.enc))))) 11 (some (.val (I i)))) 10 (some (.val (I (l.map Decl.enc).length)))) 9 (some (.val (SL 3 (l.map Decl.enc))))) 6 (some (.val (.slice o' 2 (d.xtors.map Xtor.enc))))) 5 (some (.loc 5 0))) 3 (some (.val (.slice oo 3 xl))),upd ((fun _=>none)) 5 (some ([Str d.name,B d.codata,SL 2 (d.xtors.map Xtor.enc)])),n',v',D,S⟩):EX (callL p) (.loop F46_l2) ⟨upd (upd (upd (upd (upd (upd (upd (upd (upd ((fun _=>none)) 18 (some (.val (I k)))) 17 (some (.val (I (d.xtors.map Xtor.enc).length)))) 16 (some (.val (SL 2 (d.xtors.map Xtor.enc))))) 11 (some (.val (I i)))) 10 (some (.val (I (l.map Decl.enc).length)))) 9 (some (.val (SL 3 (l.map Decl.enc))))) 6 (some (.val (.slice o 2 ((d.xtors.take k).map Xtor.enc))))) 5 (some (.loc 5 0))) 3 (some (.val (.slice oo 3 xl))),upd ((fun _=>none)) 5 (some ([Str d.name,B d.codata,SL 2 (d.xtors.map Xtor.enc)])),n,v,D,S⟩ Q:=by
 refine eloop (er (qp J (qb ?_)))
 rintro (_ | _) h1
 ·refine qn (kq10 J) (kq1 J) (eseq (ecF J (eexit (sqx ?_))))
  have e:d.xtors.take k=d.xtors:=List.take_of_length_le (by simp at h1;omega)
  rw [e]
  exact hX _ _ _ _ hn hv0
 refine qn (kq10 J) (kq1 J) (eseq (ecT J (eskip (sqn (eseq (eblock (er ?_)))))))
 have hlt:k < d.xtors.length:=by simpa using h1
 have hdz:=szL_mem (f:=Decl.sz) (Lmg hd0)
 have hdx:=Decl.sz_xtors d
 have hlx:=szL_len' (f:=Xtor.sz) d.xtors Xtor.one
 obtain ⟨x,hx0⟩:=get_of_lt hlt
 have hxz:=szL_mem (f:=Xtor.sz) (Lmg hx0)
 have hxa:=Xtor.sz_args x
 refine hia (y:=Xtor.enc x) rfl rfl (by omega) (by simp [hx0]) rfl (hlda rfl rfl (lc rfl (lc rfl (ln rfl))) (hal (dc (dc (dc (dc (dc (dc (dc (dc (dc (dc (dc (dc dn rfl) rfl) rfl) rfl) rfl) rfl) rfl) rfl) rfl) rfl) rfl) rfl) (hstl rfl rfl rfl rfl (Nlb rfl) (lc rfl (lc rfl (ln rfl))) (qk (kc rfl (kc rfl (kc rfl (kc rfl (kc rfl (kc rfl (kc rfl (kc rfl (kc rfl (kc rfl kn)))))))))) (kc rfl (kc rfl kn)) (sqn (ereg (qp rfl (qp rfl (qp rfl (qp rfl (qp rfl (hapK rfl rfl (by simp;omega) ?_))))))))))))
 intro o1 n1 v1 hn1 hk1
 refine hbuild rfl rfl (lc rfl (lc rfl (ln rfl))) (hbsl (q':=[Xtor.enc x]) rfl rfl rfl (hapC (r:=(d.xtors.take (k + 1)).map Xtor.enc) rfl rfl (hc.up hn1 hk1).can (by simp) (by simp;omega) (by simp [List.take_add_one,hx0]) ?_))
 intro v2 hc1 hv2
 refine qp J (qk (kq9 J) (kq1 J) (bqn (sqn (ereg (hadd J J (i64w (by omega)) (qp J (qk (kq9 J) (kq1 J) ?_)))))))
 exact dcopy_l2 l oo xl i d hz hd0 hll (k + 1) (by omega) _ n0 (by omega) (fun t ht=>((hc.up hn1 hk1).old (by omega) hv2 t ht).trans ((hk1 t (by omega)).trans (hv0 t ht))) (CanM.new hc1 (by omega)) hX
termination_by d.xtors.length - k
decreasing_by all_goals omega
theorem dcopy_l1 (l:List Decl) (hz:szL Decl.sz l ≤ 2 ^ 30) (i:Nat) (hi:i ≤ l.length) (o:Own) {n:Nat} {v:Nat → Bool} {D:List (Nat × List AV)} {S:Sg} {Q:Ex → Fr → Prop} (hc:CanM 0 o v n)
 (hX:∀ j n' v' o',Q (.exit 0) ⟨upd (upd (upd (upd (upd ((fun _=>none)) 12 (some (.val (B false)))) 11 (some (.val (I j)))) 10 (some (.val (I (l.map Decl.enc).length)))) 9 (some (.val (SL 3 (l.map Decl.enc))))) 3 (some (.val (.slice o' 3 (l.map Decl.enc)))),(fun _=>none),n',v',D,S⟩):EX (callL p) (.loop F46_l1) ⟨upd (upd (upd (upd ((fun _=>none)) 11 (some (.val (I i)))) 10 (some (.val (I (l.map Decl.enc).length)))) 9 (some (.val (SL 3 (l.map Decl.enc))))) 3 (some (.val (.slice o 3 ((l.take i).map Decl.enc)))),(fun _=>none),n,v,D,S⟩ Q:=by
 refine eloop (er (qp J (qb ?_)))
 rintro (_ | _) h1
 ·refine qn (kq5 J) kn (eseq (ecF J (eexit (sqx ?_))))
  have e:l.take i=l:=List.take_of_length_le (by simp at h1;omega)
  rw [e]
  exact hX _ _ _ _
 refine qn (kq5 J) kn (eseq (ecT J (eskip (sqn (eseq (eblock (er ?_)))))))
 have hlt:i < l.length:=by simpa using h1
 have hll:=szL_len' (f:=Decl.sz) l Decl.one
 obtain ⟨d,hd0⟩:=get_of_lt hlt
 refine hia (y:=Decl.enc d) rfl rfl (by omega) (by simp [hd0]) rfl (hlda rfl rfl (lc rfl (lc rfl (lc rfl (ln rfl)))) (hal (dc (dc (dc (dc (dc (dc (dc dn rfl) rfl) rfl) rfl) rfl) rfl) rfl) (hstl rfl rfl rfl rfl (Nlb rfl) (lc rfl (lc rfl (lc rfl (ln rfl)))) (qk (kc rfl (kc rfl (kc rfl (kc rfl (kc rfl kn))))) (kc rfl kn) (sqn (eseq (ereg (qp rfl (qk (kc rfl (kc rfl (kc rfl (kc rfl (kc rfl (kc rfl kn)))))) (kc rfl kn) (sqn (eseq (eseq (ereg (qp rfl (qp rfl (qp rfl (qp rfl (qk (kc rfl (kc rfl (kc rfl (kc rfl (kc rfl (kc rfl (kc rfl (kc rfl (kc rfl kn))))))))) (kc rfl kn) (sqn (eblock (dcopy_l2 l o ((l.take i).map Decl.enc) i d hz hd0 (by omega) 0 (by omega) .full n (v0:=v) (Nat.le_refl _) (fun _ _=>rfl) (.inl rfl) ?_)))))))))))))))))))))
 intro j n1 v1 o1 hn1 hk1
 refine bqx (sqn (ereg (qp rfl (qp rfl (qp rfl (qp rfl (qp rfl (qp rfl (hbuild rfl rfl (lc rfl (lc rfl (lc rfl (ln rfl)))) (hbsl (q':=[Decl.enc d]) rfl rfl rfl (hapC (r:=(l.take (i + 1)).map Decl.enc) rfl rfl (hc.up hn1 hk1).can (by simp) (by simp;omega) (by simp [List.take_add_one,hd0]) ?_)))))))))))
 intro v2 hc1 hv2
 refine qp J (qk (kq4 J) kn (bqn (sqn (ereg (hadd J J (i64w (by omega)) (qp J (qk (kq4 J) kn ?_)))))))
 exact dcopy_l1 l hz (i + 1) (by omega) _ (CanM.new hc1 (by omega)) hX
termination_by l.length - i
decreasing_by all_goals omega
theorem DCopy_c (s:Sg) (l:List Decl) (hz:szL Decl.sz l ≤ 2 ^ 30):HC p N46_ [SL 3 (l.map Decl.enc)] s (fun r s'=>r=[SL 3 (l.map Decl.enc)] ∧ s'=s):=by
 refine hcf J f46_ J ?_
 simp only [chainOf]
 refine er (qp J (qn (kq1 J) kn (er (qp J (qn (kq2 J) kn (eseq (er (pq3 J (qn (kq4 J) kn (eblock (dcopy_l1 l hz 0 (by omega) .full (.inl J) ?_)))))))))))
 intro j n1 v1 o1
 refine bqx (sqn (er (pq2 J (qn (kq1 J) kn (eret (fqr J ?_))))))
 exact ⟨rfl,rfl⟩
theorem ccopy_l (c:Core) (hz:szL CFun.sz c.funs ≤ 2 ^ 30) (hf:c.funs.length ≤ 2 ^ 30) (i:Nat) (hi:i ≤ c.funs.length) (o:Own) {n:Nat} {v:Nat → Bool} {D:List (Nat × List AV)} {S:Sg} {Q:Ex → Fr → Prop} (hc:CanM 0 o v n)
 (hX:∀ j n' v' o',Q (.exit 0) ⟨upd (upd (upd (upd (upd (upd ((fun _=>none)) 14 (some (.val (B false)))) 13 (some (.val (I j)))) 12 (some (.val (I (c.funs.map CFun.enc).length)))) 11 (some (.val (SL 8 (c.funs.map CFun.enc))))) 3 (some (.loc 3 0))) 2 (some (.loc 2 0)),upd (upd ((fun _=>none)) 3 (some ([SL 3 (c.decls.map Decl.enc),.slice o' 8 (c.funs.map CFun.enc)]))) 2 (some ([.slice .full 3 [],.slice .full 8 []])),n',v',D,S⟩):EX (callL p) (.loop F14_l1) ⟨upd (upd (upd (upd (upd ((fun _=>none)) 13 (some (.val (I i)))) 12 (some (.val (I (c.funs.map CFun.enc).length)))) 11 (some (.val (SL 8 (c.funs.map CFun.enc))))) 3 (some (.loc 3 0))) 2 (some (.loc 2 0)),upd (upd ((fun _=>none)) 3 (some ([SL 3 (c.decls.map Decl.enc),.slice o 8 ((c.funs.take i).map CFun.enc)]))) 2 (some ([.slice .full 3 [],.slice .full 8 []])),n,v,D,S⟩ Q:=by
 refine eloop (er (qp J (qb ?_)))
 rintro (_ | _) h1
 ·refine qn (kq6 J) (kq2 J) (eseq (ecF J (eexit (sqx ?_))))
  have e:c.funs.take i=c.funs:=List.take_of_length_le (by simp at h1;omega)
  rw [e]
  exact hX _ _ _ _
 refine qn (kq6 J) (kq2 J) (eseq (ecT J (eskip (sqn (eseq (eblock (er ?_)))))))
 have hlt:i < c.funs.length:=by simpa using h1
 obtain ⟨b,hb⟩:=get_of_lt hlt
 have hbz:=szL_mem (f:=CFun.sz) (Lmg hb)
 have hp1:=CFun.sz_par b
 have hp2:=CFun.sz_var b
 have hp3:=CFun.sz_bod b
 refine hia (y:=.agg (Str b.name :: encArgs b.params :: ints b.vars :: b.body.cs)) rfl rfl (by omega) (by simp [hb,CFun.enc_eq]) rfl (hlda rfl rfl (lc rfl (lc rfl (lc rfl (lc rfl (lc rfl (lc rfl (lc rfl (lc rfl (ln rfl))))))))) (hal (dc (dc (dc (dc (dc (dc (dc (dc dn rfl) rfl) rfl) rfl) rfl) rfl) rfl) rfl) (hstl rfl rfl rfl rfl (Nlb rfl) (lc rfl (lc rfl (lc rfl (lc rfl (lc rfl (lc rfl (lc rfl (lc rfl (ln rfl))))))))) (qk (kc rfl (kc rfl (kc rfl (kc rfl (kc rfl (kc rfl kn)))))) (kc rfl (kc rfl (kc rfl kn))) (sqn (ereg (qp rfl (qp rfl (qp rfl (qp rfl (qp rfl (qp rfl (hapK rfl rfl (by simp;omega) ?_)))))))))))))
 intro o1 n1 v1 hn1 hk1
 refine pq2 rfl (hapK rfl rfl (by simp;omega) ?_)
 intro o2 n2 v2 hn2 hk2
 refine qp J (hlda J J (lq5 J) (hcall J J J (Copy_c b.body (by omega) _) ?_))
 rintro _ _ ⟨rfl,rfl⟩
 refine hbuild rfl rfl (lc rfl (lc rfl (lc rfl (lc rfl (lc rfl (lc rfl (lc rfl (lc rfl (ln rfl))))))))) (hbsl (q':=[CFun.enc b]) rfl rfl (by rw [CFun.enc_eq];rfl) (hapC (r:=(c.funs.take (i + 1)).map CFun.enc) rfl rfl ((hc.up hn1 hk1).up hn2 hk2).can (by simp) (by simp;omega) (by simp [List.take_add_one,hb]) ?_))
 intro v3 hc1 hv3
 refine qp J (hstl J J J J (Nlb J) (lq2 J) (qk (kq5 J) (kq2 J) (bqn (sqn (ereg (hadd J J (i64w (by omega)) (qp J (qk (kq5 J) (kq2 J) ?_))))))))
 exact ccopy_l c hz hf (i + 1) (by omega) _ (CanM.new hc1 (Nat.zero_le _)) hX
termination_by c.funs.length - i
decreasing_by all_goals omega
theorem CopyCore_c (s:Sg) (c:Core) (hz:c.sz ≤ 2 ^ 30):HC p N14_ [.agg (Core.cs c)] s (fun r s'=>r=[.agg (Core.cs c)] ∧ s'=s):=by
 have hz1:szL Decl.sz c.decls ≤ 2 ^ 30:=by unfold Core.sz at hz;omega
 have hz2:szL CFun.sz c.funs ≤ 2 ^ 30:=by unfold Core.sz at hz;omega
 refine hcf J f14_ J ?_
 simp only [chainOf]
 refine er (hbox (dc dn J) J (lq2 J) (hal (dq2 J) (qn (kq2 J) (kq2 J) (er (pq2 J (hcall J J J (DCopy_c _ _ hz1) ?_))))))
 rintro _ _ ⟨rfl,rfl⟩
 refine hbuild rfl rfl (lc rfl (lc rfl (ln rfl))) (hal (dc (dc (dc (dc (dc (dc dn rfl) rfl) rfl) rfl) rfl) rfl) (hstl rfl rfl rfl rfl (Nlb rfl) (lc rfl (lc rfl (ln rfl))) (qk (kc rfl (kc rfl (kc rfl kn))) (kc rfl (kc rfl (kc rfl kn))) (sqn (eseq (eseq (ereg (qp rfl (qp rfl (qp rfl (qp rfl (qk (kc rfl (kc rfl (kc rfl (kc rfl (kc rfl kn))))) (kc rfl (kc rfl kn)) (sqn (eblock (ccopy_l c hz2 (by have:=szL_len' (f:=CFun.sz) c.funs CFun.one;omega) 0 (by omega) .full (.inl rfl) ?_)))))))))))))))
 intro j n1 v1 o1
 refine bqx (sqn (er (hlda J J (lq2 J) (hstl J J J J (Nlb J) (lq2 J) (qn (kq1 J) (kq1 J) (eret (fqr J ?_)))))))
 exact ⟨rfl,rfl⟩
end Go.Sim.Kd
