/-
  A part of a proof: see the last text of this claim.
-/
import Derived.Test.YtfejjomhjeioaaaGreatDoorPA
import Derived.Laws.StructEq
import Derived.Laws.IdiomRangeMap
import Derived.Scope
import Derived.Eval
import Derived.IntWalk
import Derived.Recover
set_option linter.unusedVariables false
set_option linter.unusedSimpArgs false
namespace Go.Sim
open Go
section
variable {P:Program} {w0:World} {G0 G:Gh} {fr:Fr} {a:Act} {w:World}
theorem good_ex {tv:Option TV} {fr':Fr} {r:Result Next} (h:∃ v w',r=.ok (.value v) w' ∧ ∃ G',RR w0 G0 G' fr' a w' ∧ ∀ x,tv=some x → TR G' x v):Good1 P w0 G0 a fr' tv r:=by
 obtain ⟨v,w',rfl,h⟩:=h
 exact h
theorem run_v {s:Sem Value} {v:Value} {w':World} (h:s.run P w=.ok v w'):(do pure (.value (← s)):Sem Next).run P w=.ok (.value v) w':=by
 simp [h]
theorem run_u {s:Sem Unit} {w':World} (h:s.run P w=.ok () w'):(do s;pure .skip:Sem Next).run P w=.ok .skip w':=by
 simp [h]
theorem asB_R {v:AV} {u:Value} {b:Bool} (h:VR G v u) (hb:asB v=some b):u=.bool b:=by
 cases v with
 | lit q =>
   cases q <;> simp only [asB,reduceCtorEq,Oie] at hb
   subst hb
   simp only [VR] at h
   exact h.1
 | _=>simp [asB] at hb
theorem asN_R {v:AV} {u:Value} {n:Int} (h:VR G v u) (hb:asN v=some n):∃ k,u=.int k n:=by
 cases v with
 | lit q =>
   cases q <;> simp only [asN,reduceCtorEq,Oie] at hb
   subst hb
   simp only [VR] at h
   exact ⟨_,h.1⟩
 | _=>simp [asN] at hb
theorem isNilP_R {p:TV} {u:Value} {b:Bool} (h:TR G p u) (hb:isNilP p=some b):∃ q,u=.pointer q ∧ q.isNone=b:=by
 cases p with
 | loc i o=>obtain ⟨k,rfl,_⟩:=h;simp only [isNilP,Oie] at hb;subst hb;exact ⟨_,rfl,rfl⟩
 | tup vs=>simp [isNilP] at hb
 | und=>simp [isNilP] at hb
 | val v =>
   cases v with
   | ptr i o=>simp only [TR,VR] at h;obtain ⟨k,rfl,_⟩:=h;simp only [isNilP,Oie] at hb;subst hb;exact ⟨_,rfl,rfl⟩
   | cptr i o=>simp only [TR,VR] at h;obtain ⟨k,m,rfl,_⟩:=h;simp only [isNilP,Oie] at hb;subst hb;exact ⟨_,rfl,rfl⟩
   | lit q =>
     cases q with
     | pointer q =>
       cases q with
       | none=>simp only [isNilP,Oie] at hb;subst hb;simp only [TR,VR] at h;exact ⟨none,h.1,rfl⟩
       | some q=>simp [isNilP] at hb
     | _=>simp [isNilP] at hb
   | mp g o=>simp only [TR,VR] at h;obtain ⟨k,m,rfl,_⟩:=h;simp only [isNilP,Oie] at hb;subst hb;exact ⟨_,rfl,rfl⟩
   | _=>simp [isNilP] at hb
theorem part_lit {t:TypeId} {k:CK} (hk:mCK P t k=true) {us:List Value} {i:Nat} {u:Value} (hu:us[i]?=some u):(part t us.toArray i).run P w=.ok u w:=by
 have hag:aggOf P t=some false:=by
  unfold aggOf
  cases k <;> simp only [mCK] at hk <;> (split at hk <;> first | (rename_i e;rw [e];done) | cases hk)
 simp [part,run_aggOf hag,hu]
theorem ceq_ok {t:TypeId} {k:CK} (hk:mCK P t k=true) {a b:AV} {r:Bool} (hc:ceq k a b=some r) {u v:Value} (h1:VR G a u) (h2:VR G b v) (d:Nat):(Op.equalIn (d + 1) t u v).run P w=.ok r w:=by
 unfold ceq at hc
 split at hc
 ·simp only [Oie] at hc
  subst hc
  simp only [VR] at h1 h2
  rw [h1.1,h2.1]
  simp only [mCK] at hk
  split at hk
  ·rename_i e;exact run_equalIn_bool w d t _ _ e
  cases hk
 ·split at hc
  ·rename_i hkk
   subst hkk
   simp only [Oie] at hc
   subst hc
   simp only [VR] at h1 h2
   rw [h1.1,h2.1]
   simp only [mCK] at hk
   split at hk
   ·rename_i e;rw [run_equalIn_int w d t _ _ _ _ e];simp [Bool.beq_eq_decide_eq]
   cases hk
  cases hc
 ·simp only [Oie] at hc
  subst hc
  simp only [VR] at h1 h2
  rw [h1.1,h2.1]
  simp only [mCK] at hk
  split at hk
  ·rename_i s s' _ _ e
   rw [run_equalIn_string w d t _ _ e]
   congr 1
   rw [Bool.eq_iff_iff]
   simp only [beq_iff_eq,Dte]
   constructor
   ·intro hh
    exact ByteArray.ext (Array.ext' (by simpa [ByteArray.toList_eq] using hh))
   intro hh;rw [hh]
  cases hk
 cases hc
theorem eqFields_ok {d:Nat} {us vs:List Value}:∀ (ks:List CK) (fs:List Field) (n:Nat) (as bs:List AV) (r:Bool),mCKs P n ks fs=true → ceqs ks as bs=some r →
 VRs G as (us.drop n) → VRs G bs (vs.drop n) → (Op.eqFields (d + 1) us.toArray vs.toArray fs).run P w=.ok r w
 | [],[],n,as,bs,r,_,hc,_,_=>by
   cases as <;> cases bs <;> simp only [ceqs,reduceCtorEq,Oie] at hc
   subst hc
   simp [Op.eqFields]
 | [],_ :: _,n,as,bs,r,hm,hc,_,_=>by simp [mCKs] at hm
 | _ :: _,[],n,as,bs,r,hm,hc,_,_=>by simp [mCKs] at hm
 | k :: ks,f :: fs,n,as,bs,r,hm,hc,h1,h2=>by
   cases as with
   | nil=>simp [ceqs] at hc
   | cons x as =>
     cases bs with
     | nil=>simp [ceqs] at hc
     | cons y bs =>
       simp only [ceqs,Obe,Oie] at hc
       obtain ⟨r1,hr1,r2,hr2,rfl⟩:=hc
       simp only [mCKs,Bae,beq_iff_eq,bne_iff_ne,ne_eq] at hm
       obtain ⟨⟨⟨ho,hn⟩,hk⟩,hm⟩:=hm
       simp only [VRs] at h1 h2
       obtain ⟨u,us',e1,g1,g2⟩:=h1
       obtain ⟨v,vs',e2,g3,g4⟩:=h2
       have gu:us[n]?=some u:=by have:=congrArg (·[0]?) e1;simpa using this
       have gv:vs[n]?=some v:=by have:=congrArg (·[0]?) e2;simpa using this
       have du:us.drop (n + 1)=us':=by have:=congrArg List.tail e1;simpa using this
       have dv:vs.drop (n + 1)=vs':=by have:=congrArg List.tail e2;simpa using this
       have ih:=eqFields_ok (d:=d) ks fs (n + 1) as bs r2 hm hr2 (by rw [du];exact g2) (by rw [dv];exact g4)
       simp only [Op.eqFields,ne_eq,hn,not_false_eq_true,if_true,ho,Sem.run_bind,part_lit hk gu,part_lit hk gv,Result.andThen_ok,ceq_ok hk hr1 g1 g3 d]
       cases r1 with
       | false=>simp
       | true=>simpa using ih
theorem ldo_ld {tk:Bool} {fr:Fr} {n:Option Nat} {q p:TV} {v:AV} (h:ldoAt tk fr.sg n q p=some v):ldAt fr true n p=some v:=by
 unfold ldoAt at h
 split at h
 ·split at h
  ·cases h
  split at h
  ·rename_i e
   subst e
   simpa [ldAt] using h
  cases h
 ·split at h
  ·split at h
   ·rename_i e
    subst e
    simpa [ldAt] using h
   cases h
  cases h
 cases h
theorem qres_some {e:Nat → Option TV} {ks:List Nat} {fr:Fr} {r:List AV × Sg} {x:Option TV × Fr} (h:qres e ks fr r=some x):keeps e fr.sg r.2 ks ∧ x=(some (toTV r.1),{ fr with sg:=r.2 }):=by
 unfold qres at h
 split at h
 ·rename_i hk;cases h;exact ⟨hk,rfl⟩
 cases h
theorem run_meth {name:String} {t f:Nat} (hm:mMeth P name t f=true) (v:Value) (d:Nat):(method (d + 1) t v name).run P w=.ok (f,v) w:=by
 unfold mMeth at hm
 split at hm
 ·rename_i i hi
  split at hm
  ·rename_i m hf
   simp only [Bae] at hm
   obtain ⟨hp,hm⟩:=hm
   have hp':m.path.toList=[]:=by simpa using hp
   split at hm
   ·rename_i g pr hfn
    simp only [Bae,beq_iff_eq] at hm
    obtain ⟨rfl,hm⟩:=hm
    split at hm
    ·rename_i el hu
     subst hm
     simp [method,typeInfo,hi,hf,hp',follow,hfn,receiverAt,run_underlying hu,Place.get]
    ·rename_i d hne hu
     have hpr:pr=false:=by simpa using hm
     subst hpr
     have key:∀ wr,(receiverAt t (.val v) false wr).run P w=.ok v w:=by
      intro wr
      unfold receiverAt
      simp only [Sem.run_bind,run_underlying hu,Result.andThen_ok]
      cases d <;> first | (exact absurd rfl (hne _)) | simp [Place.get]
     simp [method,typeInfo,hi,hf,hp',follow,hfn,key]
    cases hm
   cases hm
  cases hm
 cases hm
theorem mNilI_inv {t:TypeId} {y:Operand} (h:mNilI P t y=true):(∃ el,P.underlying t=some (.interface el)) ∧ y=.const .nilIface:=by
 unfold mNilI at h
 simp only [Bae] at h
 obtain ⟨h1,h2⟩:=h
 constructor
 ·split at h1
  ·exact ⟨_,by assumption⟩
  cases h1
 split at h2
 ·rfl
 cases h2
theorem sim_ixv {t:TypeId} {len sz:Nat} {n:Option Nat} (hm:mIxv P t len sz n=true) {p v:AV} {x:Value} {k:IntKind} {j:Int} (hp:VR G p x) (hv:ixvOf len sz n j p=some v) :
 ∃ u,(Instr.index t x (.int k j)).run P w=.ok u w ∧ VR G v u:=by
 unfold mIxv at hm
 split at hm
 ·rename_i l e hu
  simp only [Bae,beq_iff_eq] at hm
  obtain ⟨⟨rfl,h3⟩,h4⟩:=hm
  cases p with
  | agg cs =>
    simp only [ixvOf] at hv
    split at hv
    ·rename_i hr
     simp only [VR] at hp
     obtain ⟨vs,rfl,hvs,hall⟩:=hp
     cases n with
     | none =>
       simp only [mN,beq_iff_eq] at h3
       simp only [rd] at hv
       obtain ⟨u,g1,g2⟩:=VRs_get hvs _ v hv
       refine ⟨u,?_,g2⟩
       simp [Instr.index,asIntOf,run_underlying hu,hr.1,hr.2,part,run_aggOf h3,run_szOf h4,g1]
     | some n =>
       simp only [mN,Bae,beq_iff_eq] at h3
       simp only [rd] at hv
       split at hv
       ·rename_i hle
        simp only [Oie] at hv
        subst hv
        refine ⟨.agg (vs.toArray.extract (j.toNat * sz) (j.toNat * sz + n)),?_,?_⟩
        ·have e2:sz=n:=by rw [h3.2] at h4;simpa using h4.symm
         subst e2
         simp [Instr.index,asIntOf,run_underlying hu,hr.1,hr.2,part,run_aggOf h3.1,run_szOf h4]
        simp only [VR]
        refine ⟨(vs.drop (j.toNat * sz)).take n,?_,VRs_take (VRs_drop hvs _) _,?_⟩
        ·congr 1
         apply Array.ext'
         simp [List.extract_eq_take_drop]
        rw [List.all_eq_true] at hall ⊢
        exact fun c hc=>hall c (List.mem_of_mem_drop (List.mem_of_mem_take hc))
       cases hv
    cases hv
  | _=>simp [ixvOf] at hv
 cases hm
theorem mNilS_inv {t:TypeId} {y:Operand} (h:mNilS P t y=true):(∃ el,P.underlying t=some (.slice el)) ∧ y=.const (.slice none 0 0):=by
 unfold mNilS at h
 simp only [Bae] at h
 obtain ⟨h1,h2⟩:=h
 constructor
 ·split at h1
  ·exact ⟨_,by assumption⟩
  cases h1
 split at h2
 ·rfl
 cases h2
theorem snl_R {p:AV} {u:Value} {b:Bool} (h:VR G p u) (hb:snlOf p=some b):∃ ad len cap,u=.slice (some ad) len cap ∧ b=false:=by
 cases p with
 | slice o sz xs =>
   cases xs with
   | nil=>cases hb
   | cons x xs =>
     simp only [snlOf,Oie] at hb
     simp only [VR] at h
     obtain ⟨ad,cap,rfl,h1,h2,h3,h4⟩:=h
     cases ad with
     | none=>simp only [lies] at h3;simp only [List.length_cons] at h1;omega
     | some ad=>exact ⟨ad,_,_,rfl,hb.symm⟩
 | ms g off len sz =>
   simp only [snlOf,Oie] at hb
   simp only [VR] at h
   obtain ⟨bl,room,cap,rfl,_⟩:=h
   exact ⟨_,_,_,rfl,hb.symm⟩
 | _=>cases hb
theorem evPs_zip {e:Nat → Option TV}:∀ {ps:List (Nat × Nat)} {xs:List AO} {l:List AV},Sim.evVs e xs=some l → evPs e (zipP ps xs)=some (zipP ps l)
 | [],xs,l,h=>by simp [zipP,evPs]
 | (a,b) :: ps,[],l,h=>by
  simp only [Sim.evVs,Oie] at h
  subst h
  simp [zipP,evPs]
 | (a,b) :: ps,x :: xs,l,h=>by
  simp only [Sim.evVs,Obe,Oie] at h
  obtain ⟨v,h1,l',h2,rfl⟩:=h
  simp only [zipP,evPs,h1,Obs,evPs_zip (ps:=ps) h2]
theorem sim_op {call:Caller} (hc:CallOK P call) (h:RR w0 G0 G fr a w) (o:Oper) (x:AOp) (hm:mOp P x o.op=true) {d:Option Nat} {tv:Option TV} {fr':Fr} (he:aop call d x fr=some (tv,fr')) :
 Good1 P w0 G0 a fr' tv ((execOp a.eval o).run P w):=by
 cases x with
 | mv x =>
   simp only [aop,Obe,Oie,Pie] at he
   obtain ⟨v,hv,rfl,rfl⟩:=he
   simp only [mOp] at hm
   split at hm
   ·rename_i y ho
    simp only [execOp,ho]
    exact good_val h rfl (h.ev hm hv)
   ·rename_i y ho
    simp only [execOp,ho]
    exact good_val h rfl (h.ev hm hv)
   cases hm
 | pick c p q =>
   simp only [aop,Obe,Oie,Pie] at he
   obtain ⟨cv,hcv,t,ht,v,hv,rfl,rfl⟩:=he
   simp only [mOp] at hm
   split at hm
   ·rename_i c' p' q' ho
    simp only [Bae] at hm
    have hb:=asB_R (h.evV hm.1.1 hcv) ht
    simp only [execOp,ho]
    cases t with
    | true=>exact good_val h (v:=a.eval p') (by simp [hb,asBool]) (h.ev hm.1.2 (by simpa using hv))
    | false=>exact good_val h (v:=a.eval q') (by simp [hb,asBool]) (h.ev hm.2 (by simpa using hv))
   cases hm
 | alloc lc z =>
   simp only [mOp] at hm
   split at hm
   ·rename_i t ho
    split at hm
    ·rename_i zv hz
     simp only [Bae] at hm
     obtain ⟨v,w',hr,hG⟩:=sim_alloc (P:=P) h hz hm.1 hm.2 he
     simp only [execOp,ho]
     exact good_ex ⟨v,w',run_v hr,hG⟩
    cases hm
   cases hm
 | box lc y =>
   simp only [mOp] at hm
   split at hm
   ·rename_i t y' ho
    obtain ⟨v,w',hr,hG⟩:=sim_box (P:=P) (t:=t) h hm he
    simp only [execOp,ho]
    exact good_ex ⟨v,w',run_v hr,hG⟩
   cases hm
 | build z ps =>
   simp only [aop,Obe,Oie,Pie] at he
   obtain ⟨l,hl,cs,hcs,rfl,rfl⟩:=he
   simp only [mOp] at hm
   split at hm
   ·rename_i t qs ho
    simp only [Bae] at hm
    obtain ⟨v,hr,hv⟩:=sim_build h hm.1 hm.2 hl hcs
    simp only [execOp,ho]
    exact good_val h (run_v hr) hv
   cases hm
 | bsl sz ps =>
   simp only [aop,Obe] at he
   obtain ⟨l,hl,he⟩:=he
   split at he
   ·rename_i hall
    simp only [Oie,Pie] at he
    obtain ⟨rfl,rfl⟩:=he
    simp only [mOp] at hm
    split at hm
    ·rename_i t len qs ho
     obtain ⟨v,w',hr,G',h1,h2⟩:=sim_bsl h hm hl hall
     simp only [execOp,ho]
     exact good_ex ⟨v,w',run_v hr,G',h1,fun x hx=>by cases hx;exact h2⟩
    cases hm
   cases he
 | ld hf n x =>
   simp only [aop,Obe,Oie,Pie] at he
   obtain ⟨p,hp,v,hv,rfl,rfl⟩:=he
   simp only [mOp] at hm
   split at hm
   ·rename_i t y ho
    simp only [Bae] at hm
    obtain ⟨u,hr,hu⟩:=sim_ld h hm.1 hm.2 hp hv
    simp only [execOp,ho]
    exact good_val h (run_v hr) hu
   cases hm
 | st hf n x y =>
   simp only [aop,Obe] at he
   obtain ⟨p,hp,v,hv,he⟩:=he
   split at he
   ·rename_i hn
    simp only [Obe,Oie,Pie] at he
    obtain ⟨fr1,hst,rfl,rfl⟩:=he
    simp only [mOp] at hm
    split at hm
    ·rename_i t x' y' ho
     simp only [Bae,beq_iff_eq] at hm
     obtain ⟨w',hr,hG⟩:=sim_st h hm.1.1 hm.1.2 hm.2 hp hv hn hst
     simp only [execOp,ho]
     rw [run_u hr]
     exact ⟨rfl,hG⟩
    cases hm
   cases he
 | nck x =>
   simp only [aop,Obe,Oie,Pie] at he
   obtain ⟨p,hp,v,hv,rfl,rfl⟩:=he
   simp only [mOp] at hm
   split at hm
   ·rename_i y ho
    have hr:=h.ev hm hp
    have hq:v=p ∧ ((∃ b,a.eval y=.pointer (some b)) ∨ ∃ f b c,a.eval y=.func (.func f) b c):=by
     cases p with
     | loc i o=>obtain ⟨k,e,_⟩:=hr;simp only [nckOf,Oie] at hv;exact ⟨hv.symm,.inl ⟨_,e⟩⟩
     | tup vs=>simp [nckOf] at hv
     | und=>simp [nckOf] at hv
     | val av =>
       cases av with
       | ptr i o=>simp only [TR,VR] at hr;obtain ⟨k,e,_⟩:=hr;simp only [nckOf,Oie] at hv;exact ⟨hv.symm,.inl ⟨_,e⟩⟩
       | cptr i o=>simp only [TR,VR] at hr;obtain ⟨k,m,e,_⟩:=hr;simp only [nckOf,Oie] at hv;exact ⟨hv.symm,.inl ⟨_,e⟩⟩
       | fn f x y=>simp only [TR,VR] at hr;obtain ⟨k,m,e,_⟩:=hr;simp only [nckOf,Oie] at hv;exact ⟨hv.symm,.inr ⟨_,_,_,e⟩⟩
       | mp g o=>simp only [TR,VR] at hr;obtain ⟨k,m,e,_⟩:=hr;simp only [nckOf,Oie] at hv;exact ⟨hv.symm,.inl ⟨_,e⟩⟩
       | _=>simp [nckOf] at hv
    obtain ⟨rfl,hq⟩:=hq
    simp only [execOp,ho]
    refine good_val h ?_ hr
    rcases hq with ⟨b,e⟩ | ⟨f,b,c,e⟩ <;> rw [e] <;> rfl
   cases hm
 | bin op x y =>
   simp only [aop,Obe,Oie,Pie] at he
   obtain ⟨p,hp,q,hq,v,hv,rfl,rfl⟩:=he
   simp only [mOp] at hm
   split at hm
   ·rename_i op' t x' y' t' ho
    simp only [Bae,Dte] at hm
    obtain ⟨⟨rfl,h1⟩,h2⟩:=hm
    obtain ⟨u,hr,hu⟩:=sim_bin (P:=P) (w:=w) (t:=t) (x:=x') (y:=y') (h.evV h1 hp) (h.evV h2 hq) hv
    simp only [execOp,ho]
    exact good_val h (run_v hr) hu
   cases hm
 | beq ng x y =>
   simp only [aop,Obe,Oie,Pie] at he
   obtain ⟨p,hp,b1,hb1,q,hq,b2,hb2,rfl,rfl⟩:=he
   simp only [mOp] at hm
   split at hm
   ·rename_i op' t x' y' t' ho
    simp only [Bae,Dte] at hm
    obtain ⟨⟨⟨rfl,h1⟩,h2⟩,h3⟩:=hm
    split at h3
    ·rename_i hu
     have e1:=asB_R (h.evV h1 hp) hb1
     have e2:=asB_R (h.evV h2 hq) hb2
     simp only [execOp,ho]
     refine good_val h (v:=.bool (if ng then !(b1 == b2) else (b1 == b2))) ?_ (by show VR G (.lit _) _;unfold VR;exact ⟨rfl,rfl⟩)
     rw [e1,e2]
     cases ng <;> simp [eqGuard,binOp,Op.equal,Op.maxDepth,run_equalIn_bool w _ t b1 b2 hu]
    cases h3
   cases hm
 | peq ng x y =>
   simp only [aop,Obe] at he
   obtain ⟨p,hp,b1,hb1,q,hq,b2,hb2,he⟩:=he
   split at he
   ·rename_i hor
    simp only [Oie,Pie] at he
    obtain ⟨rfl,rfl⟩:=he
    simp only [mOp] at hm
    split at hm
    ·rename_i op' t x' y' t' ho
     simp only [Bae,Dte] at hm
     obtain ⟨⟨⟨rfl,h1⟩,h2⟩,h3⟩:=hm
     split at h3
     ·rename_i el hu
      obtain ⟨u1,e1,n1⟩:=isNilP_R (h.ev h1 hp) hb1
      obtain ⟨u2,e2,n2⟩:=isNilP_R (h.ev h2 hq) hb2
      simp only [execOp,ho]
      refine good_val h (v:=.bool (if ng then !(b1 && b2) else (b1 && b2))) ?_ (by show VR G (.lit _) _;unfold VR;exact ⟨rfl,rfl⟩)
      have heq:∀ n,(Op.equalIn (n + 1) t (.pointer u1) (.pointer u2)).run P w=.ok (b1 && b2) w:=by
       intro n
       subst n1 n2
       cases u1 <;> cases u2 <;> simp [Op.equalIn,run_underlying hu] at hor ⊢
      rw [e1,e2]
      cases ng <;> simp [eqGuard,binOp,Op.equal,Op.maxDepth,heq]
     cases h3
    cases hm
   cases he
 | mmx mx x y =>
   simp only [aop,Obe,Oie,Pie] at he
   obtain ⟨p,hp,q,hq,v,hv,rfl,rfl⟩:=he
   simp only [mOp] at hm
   split at hm
   ·rename_i c ho
    have key:∀ (x' y':Operand),c.args.toList=[x',y'] → mO x x'=true → mO y y'=true → ∃ k m n,c.args.map a.eval=#[.int k m,.int k n] ∧ v=.lit (.int k (if mx then (if n > m then n else m) else (if n < m then n else m))):=by
     intro x' y' hargs h1 h2
     have ea:c.args=#[x',y']:=Array.ext' (by simpa using hargs)
     have r1:=h.evV h1 hp
     have r2:=h.evV h2 hq
     unfold mmOf at hv
     split at hv
     ·split at hv
      ·rename_i hk
       subst hk
       simp only [Oie] at hv
       simp only [VR] at r1 r2
       exact ⟨_,_,_,by simp [ea,r1.1,r2.1],hv.symm⟩
      cases hv
     cases hv
    split at hm
    ·rename_i x' y' hcal hargs
     simp only [Bae] at hm
     obtain ⟨k,m,n,e1,rfl⟩:=key x' y' hargs hm.1.1 hm.1.2
     have hmx:=hm.2
     subst hmx
     simp only [execOp,ho,resolve,hcal,Sem.run_bind,Sem.run_pure,Result.andThen_ok,invoke,builtin,e1]
     exact good_val h (v:=.int k (if n > m then n else m)) (by simp [Builtin.max_,Builtin.max2]) (by show VR G (.lit _) _;unfold VR;exact ⟨rfl,rfl⟩)
    ·rename_i x' y' hcal hargs
     simp only [Bae,Bool.not_eq_true'] at hm
     obtain ⟨k,m,n,e1,rfl⟩:=key x' y' hargs hm.1.1 hm.1.2
     have hmx:=hm.2
     subst hmx
     simp only [execOp,ho,resolve,hcal,Sem.run_bind,Sem.run_pure,Result.andThen_ok,invoke,builtin,e1]
     exact good_val h (v:=.int k (if n < m then n else m)) (by simp [Builtin.min_,Builtin.min2]) (by show VR G (.lit _) _;unfold VR;exact ⟨rfl,rfl⟩)
    cases hm
   cases hm
 | aeq ng ks x y =>
   simp only [aop,Obe,Oie,Pie] at he
   obtain ⟨p,hp,q,hq,r,hr,rfl,rfl⟩:=he
   simp only [mOp] at hm
   split at hm
   ·rename_i op' t x' y' t' ho
    simp only [Bae,Dte] at hm
    obtain ⟨⟨⟨rfl,h1⟩,h2⟩,h3⟩:=hm
    have r1:=h.evV h1 hp
    have r2:=h.evV h2 hq
    unfold aeqOf at hr
    split at hr
    ·rename_i as bs
     simp only [VR] at r1 r2
     obtain ⟨us,e1,g1,_⟩:=r1
     obtain ⟨vs,e2,g2,_⟩:=r2
     simp only [mAeq,Bae,Bool.not_eq_true'] at h3
     obtain ⟨⟨h3,h4⟩,h5⟩:=h3
     split at h3
     ·rename_i fs hu
      have hfs:P.fieldsOf t=fs:=by simp [Program.fieldsOf,hu]
      have hf:=eqFields_ok (P:=P) (w:=w) (d:=9998) (us:=us) (vs:=vs) ks fs.toList 0 as bs r h3 hr (by simpa using g1) (by simpa using g2)
      have heq:(Op.equalIn 10000 t (.agg us.toArray) (.agg vs.toArray)).run P w=.ok r w:=by
       rw [run_equalIn_struct w 9999 t _ _ (by rw [hfs];exact hu) h4,hfs]
       exact hf
      simp only [execOp,ho]
      refine good_val h (v:=.bool (if ng then !r else r)) ?_ (by show VR G (.lit _) _;unfold VR;exact ⟨rfl,rfl⟩)
      rw [e1,e2]
      cases ng <;> simp [run_eqGuard_agg w _ t x' y' us.toArray vs.toArray h5,run_eql_struct,run_neq_struct,heq]
     cases h3
    cases hr
   cases hm
 | unot x =>
   simp only [aop,Obe,Oie,Pie] at he
   obtain ⟨p,hp,b,hb,rfl,rfl⟩:=he
   simp only [mOp] at hm
   split at hm
   ·rename_i t y ho
    simp only [execOp,ho]
    refine good_val h (v:=.bool !b) ?_ (by show VR G (.lit _) _;unfold VR;exact ⟨rfl,rfl⟩)
    rw [asB_R (h.evV hm hp) hb]
    rfl
   cases hm
 | uneg x =>
   simp only [aop,Obe,Oie,Pie] at he
   obtain ⟨p,hp,v,hv,rfl,rfl⟩:=he
   simp only [mOp] at hm
   split at hm
   ·rename_i t y ho
    have hr:=h.evV hm hp
    cases p with
    | lit q =>
      cases q <;> simp only [negOf,reduceCtorEq,Oie] at hv
      subst hv
      simp only [VR] at hr
      simp only [execOp,ho]
      refine good_val h ?_ (by show VR G (.lit _) _;unfold VR;exact ⟨rfl,rfl⟩)
      rw [hr.1]
      rfl
    | _=>simp [negOf] at hv
   cases hm
 | cvt k x =>
   simp only [aop,Obe,Oie,Pie] at he
   obtain ⟨p,hp,n,hn,rfl,rfl⟩:=he
   simp only [mOp] at hm
   split at hm
   ·rename_i s t y ho
    simp only [Bae] at hm
    obtain ⟨⟨h1,h2⟩,h3⟩:=hm
    split at h3
    ·rename_i k' hu
     simp only [Dte] at h3
     subst h3
     obtain ⟨k0,e⟩:=asN_R (h.evV h1 hp) hn
     obtain ⟨sd,hs⟩:=Option.isSome_iff_exists.1 h2
     simp only [execOp,ho]
     refine good_val h (v:=.int k (k.wrap n)) ?_ (by show VR G (.lit _) _;unfold VR;exact ⟨rfl,rfl⟩)
     rw [e]
     simp [convert,run_underlying hs,run_underlying hu,Conv.intToInt]
    cases h3
   cases hm
 | mkf f fs cs =>
   simp only [aop,Obe,Oie,Pie] at he
   obtain ⟨l1,h1,l2,h2,rfl,rfl⟩:=he
   simp only [mOp] at hm
   split at hm
   ·rename_i f' fs' cs' ho
    simp only [Bae,beq_iff_eq] at hm
    obtain ⟨⟨rfl,m1⟩,m2⟩:=hm
    simp only [execOp,ho]
    refine good_val h (v:=.func (.func f) (fs'.map a.eval) (cs'.map a.eval)) rfl ?_
    show VR G (.fn _ _ _) _
    simp only [VR]
    refine ⟨(fs'.toList.map a.eval),(cs'.toList.map a.eval),?_,VRs_er _ _ (h.evVs m1 h1),VRs_er _ _ (h.evVs m2 h2)⟩
    congr 1 <;> exact Array.ext' (by simp)
   cases hm
 | mkm kk =>
   simp only [aop,Oie,Pie] at he
   obtain ⟨rfl,rfl⟩:=he
   simp only [mOp] at hm
   split at hm
   ·rename_i t ho
    obtain ⟨v,w',hr,G',h1,h2⟩:=sim_mkm (P:=P) h t kk
    simp only [execOp,ho,Option.map_none]
    exact good_ex ⟨v,w',run_v hr,G',h1,fun x hx=>by cases hx;exact h2⟩
   cases hm
 | fa off x =>
   simp only [aop,Obe,Oie,Pie] at he
   obtain ⟨p,hp,v,hv,rfl,rfl⟩:=he
   simp only [mOp] at hm
   split at hm
   ·rename_i t y i ho
    simp only [Bae] at hm
    obtain ⟨h1,h2⟩:=hm
    split at h2
    ·rename_i f hf
     simp only [Bae,beq_iff_eq] at h2
     obtain ⟨h2,h3⟩:=h2
     split at h3
     ·rename_i s hs
      simp only [Dte] at h3
      obtain ⟨u,hr,hu⟩:=sim_fa h h1 hf h2 hs h3 hp hv
      simp only [execOp,ho]
      exact good_val h (run_v hr) hu
     cases h3
    cases h2
   cases hm
 | fld off n x =>
   simp only [aop,Obe,Oie,Pie] at he
   obtain ⟨p,hp,v,hv,rfl,rfl⟩:=he
   simp only [mOp] at hm
   split at hm
   ·rename_i t y i ho
    simp only [Bae] at hm
    obtain ⟨h1,h2⟩:=hm
    split at h2
    ·rename_i f hf
     simp only [Bae,beq_iff_eq] at h2
     obtain ⟨h2,h3⟩:=h2
     have hr:=h.evV h1 hp
     cases p with
     | agg cs =>
       simp only [fldOf] at hv
       simp only [VR] at hr
       obtain ⟨vs,e,hvs,hall⟩:=hr
       unfold fieldOf at hf
       split at hf
       ·rename_i fs hu
        simp only [execOp,ho]
        rw [e]
        cases n with
        | none =>
          simp only [mN,beq_iff_eq] at h3
          simp only [rd] at hv
          obtain ⟨u,g1,g2⟩:=VRs_get hvs _ v hv
          refine good_val h (v:=u) (run_v ?_) g2
          simp [Instr.field,run_underlying hu,hf,asAgg,part,run_aggOf h3,h2,g1]
        | some n =>
          simp only [mN,Bae,beq_iff_eq] at h3
          simp only [rd] at hv
          split at hv
          ·rename_i hle
           simp only [Oie] at hv
           subst hv
           refine good_val h (v:=.agg (vs.toArray.extract off (off + n))) (run_v ?_) ?_
           ·simp [Instr.field,run_underlying hu,hf,asAgg,part,run_aggOf h3.1,h2,run_szOf h3.2]
           show VR G (.agg _) _
           simp only [VR]
           refine ⟨(vs.drop off).take n,?_,VRs_take (VRs_drop hvs _) _,?_⟩
           ·congr 1
            apply Array.ext'
            simp [List.extract_eq_take_drop]
           rw [List.all_eq_true] at hall ⊢
           exact fun c hc=>hall c (List.mem_of_mem_drop (List.mem_of_mem_take hc))
          cases hv
       cases hf
     | _=>simp [fldOf] at hv
    cases h2
   cases hm
 | ia sz x i =>
   simp only [aop,Obe,Oie,Pie] at he
   obtain ⟨p,hp,iv,hiv,n,hn,v,hv,rfl,rfl⟩:=he
   simp only [mOp] at hm
   split at hm
   ·rename_i t y k ho
    simp only [Bae,beq_iff_eq] at hm
    obtain ⟨u,hr,hu⟩:=sim_ia h hm.1.1 hm.1.2 hm.2 hp hiv hn hv
    simp only [execOp,ho]
    exact good_val h (run_v hr) hu
   cases hm
 | iaa len sz x i =>
   simp only [aop,Obe] at he
   obtain ⟨p,hp,iv,hiv,n,hn,he⟩:=he
   split at he
   ·rename_i hr0
    simp only [Obe,Oie,Pie] at he
    obtain ⟨v,hv,rfl,rfl⟩:=he
    simp only [mOp] at hm
    split at hm
    ·rename_i t y k ho
     simp only [Bae,beq_iff_eq] at hm
     obtain ⟨u,hr,hu⟩:=sim_iaa h hm.1.1 hm.1.2 hm.2 hp hiv hn hr0 hv
     simp only [execOp,ho]
     exact good_val h (run_v hr) hu
    cases hm
   cases he
 | ixs x i =>
   simp only [aop,Obe,Oie,Pie] at he
   obtain ⟨p,hp,iv,hiv,n,hn,v,hv,rfl,rfl⟩:=he
   simp only [mOp] at hm
   split at hm
   ·rename_i t y k ho
    simp only [Bae] at hm
    obtain ⟨⟨h1,h2⟩,h3⟩:=hm
    split at h3
    ·rename_i hu
     have hr:=h.evV h1 hp
     obtain ⟨k0,e⟩:=asN_R (h.evV h2 hiv) hn
     unfold ixsOf at hv
     split at hv
     ·rename_i s
      split at hv
      ·rename_i h0
       simp only [Obe,Oie] at hv
       obtain ⟨b,hb,rfl⟩:=hv
       simp only [VR] at hr
       simp only [execOp,ho]
       refine good_val h (v:=.int .u8 b.toNat) (run_v ?_) (by show VR G (.lit _) _;unfold VR;exact ⟨rfl,rfl⟩)
       rw [hr.1,e]
       have hb':s[n.toNat]?=some b:=by
        have hlt:n.toNat < s.data.toList.length:=by
         rcases Nat.lt_or_ge n.toNat s.data.toList.length with h' | h'
         ·exact h'
         rw [List.getElem?_eq_none h'] at hb;cases hb
        have hlt':n.toNat < s.size:=by simpa using hlt
        rw [getElem?_pos s n.toNat hlt']
        rw [List.getElem?_eq_getElem hlt] at hb
        have h9:s.data[n.toNat]'hlt'=b:=by simpa using hb
        exact congrArg some h9
       simp [Instr.index,asIntOf,run_underlying hu,h0,hb']
      cases hv
     cases hv
    cases h3
   cases hm
 | lk kk z ok m k =>
   simp only [aop,Obe,Oie,Pie] at he
   obtain ⟨mv,h1,kv,h2,key,h3,r,h4,rfl,rfl⟩:=he
   simp only [mOp] at hm
   split at hm
   ·rename_i t m' k' ok' ho
    simp only [Bae,beq_iff_eq] at hm
    obtain ⟨⟨⟨m1,m2⟩,rfl⟩,m3⟩:=hm
    obtain ⟨u,hr,hu⟩:=sim_lk h m1 m2 m3 (ok:=ok) h1 h2 h3 h4
    simp only [execOp,ho]
    exact good_val h (run_v hr) hu
   cases hm
 | mu kk m k v =>
   simp only [aop,Obe,Oie,Pie] at he
   obtain ⟨mv,h1,kv,h2,key,h3,vv,h5,r,h4,rfl,rfl⟩:=he
   simp only [mOp] at hm
   split at hm
   ·rename_i t m' k' v' ho
    simp only [Bae] at hm
    obtain ⟨w',hr,hG⟩:=sim_mu h hm.1.1.1 hm.1.1.2 hm.1.2 hm.2 h1 h2 h3 h5 h4
    simp only [execOp,ho]
    rw [run_u hr]
    exact ⟨rfl,G,hG⟩
   ·rename_i t m' k' v' ho
    simp only [Bae] at hm
    obtain ⟨w',hr,hG⟩:=sim_mu h hm.1.1.1 hm.1.1.2 hm.1.2 hm.2 h1 h2 h3 h5 h4
    simp only [execOp,ho]
    rw [run_u hr]
    exact ⟨rfl,G,hG⟩
   cases hm
 | dl kk m k =>
   simp only [aop,Obe,Oie,Pie] at he
   obtain ⟨mv,h1,kv,h2,key,h3,r,h4,rfl,rfl⟩:=he
   simp only [mOp] at hm
   split at hm
   ·rename_i c ho
    split at hm
    ·rename_i m' k' t u hcal hargs htys
     simp only [Bae] at hm
     obtain ⟨w',hr,hG⟩:=sim_dl (u:=u) (ty:=o.type) h hm.1.1 hm.1.2 hm.2 h1 h2 h3 h4
     have ea:c.args=#[m',k']:=Array.ext' (by simpa using hargs)
     have et:c.argTypes=#[t,u]:=Array.ext' (by simpa using htys)
     simp only [execOp,ho,resolve,hcal,Sem.run_bind,Sem.run_pure,Result.andThen_ok,invoke,builtin,ea,et]
     have e2:(#[m',k']:Array Operand).map a.eval=#[a.eval m',a.eval k']:=by simp
     rw [e2]
     refine good_ex ⟨.tuple #[],w',?_,G,hG,fun x hx=>by cases hx⟩
     rw [hr];rfl
    cases hm
   cases hm
 | ext x i =>
   simp only [aop,Obe,Oie,Pie] at he
   obtain ⟨p,hp,v,hv,rfl,rfl⟩:=he
   simp only [mOp] at hm
   split at hm
   ·rename_i y j ho
    simp only [Bae,beq_iff_eq] at hm
    obtain ⟨h1,rfl⟩:=hm
    have hr:=h.ev h1 hp
    unfold extOf at hv
    split at hv
    ·rename_i vs
     obtain ⟨l,e,hl⟩:=hr
     obtain ⟨u,g1,g2⟩:=VRs_get hl _ v hv
     simp only [execOp,ho]
     refine good_val h (v:=u) (run_v ?_) g2
     rw [e]
     simp [Instr.extract,g1]
    cases hv
   cases hm
 | call f as =>
   simp only [aop,Obe,Oie,Pie] at he
   obtain ⟨g,h1,l,h2,⟨res,s'⟩,h3,rfl,rfl⟩:=he
   simp only [mOp] at hm
   split at hm
   ·rename_i c ho
    simp only [Bae] at hm
    obtain ⟨f',args,hr,hcalls⟩:=sim_call h hc (ty:=o.type) hm.1 hm.2 h1 h2 h3
    simp only [execOp,ho]
    rw [hr]
    refine hcalls.mono ?_
    rintro e w'' ⟨v,rfl,G',r1,r2⟩
    exact ⟨v,rfl,G',r1,fun x hx=>by cases hx;exact r2⟩
   cases hm
 | len st x =>
   simp only [aop,Obe,Oie,Pie] at he
   obtain ⟨p,hp,v,hv,rfl,rfl⟩:=he
   simp only [mOp] at hm
   split at hm
   ·rename_i c ho
    split at hm
    ·rename_i y t hcal hargs htys
     simp only [Bae] at hm
     obtain ⟨h1,h2⟩:=hm
     have hr:=h.evV h1 hp
     have ea:c.args=#[y]:=Array.ext' (by simpa using hargs)
     have et:c.argTypes=#[t]:=Array.ext' (by simpa using htys)
     simp only [execOp,ho,resolve,hcal,Sem.run_bind,Sem.run_pure,Result.andThen_ok,invoke,builtin,ea,et]
     have e2:(#[y]:Array Operand).map a.eval=#[a.eval y]:=by simp
     rw [e2]
     unfold lenOfA at hv
     split at hv
     ·rename_i o' sz xs
      simp only [Oie] at hv
      subst hv
      simp only [VR] at hr
      obtain ⟨sa,cap,e,_⟩:=hr
      refine good_val h (v:=.int .i64 xs.length) ?_ (by show VR G (.lit _) _;unfold VR;exact ⟨rfl,rfl⟩)
      rw [e]
      split at h2
      ·cases h2
      ·rename_i el hu
       simp [Builtin.len_,run_underlying hu,goInt]
      cases h2
     ·rename_i g off len sz
      simp only [Oie] at hv
      subst hv
      simp only [VR] at hr
      obtain ⟨bl,room,cap,e,_⟩:=hr
      refine good_val h (v:=.int .i64 len) ?_ (by show VR G (.lit _) _;unfold VR;exact ⟨rfl,rfl⟩)
      rw [e]
      split at h2
      ·cases h2
      ·rename_i el hu
       simp [Builtin.len_,run_underlying hu,goInt]
      cases h2
     ·rename_i s
      simp only [Oie] at hv
      subst hv
      simp only [VR] at hr
      refine good_val h (v:=.int .i64 s.size) ?_ (by show VR G (.lit _) _;unfold VR;exact ⟨rfl,rfl⟩)
      rw [hr.1]
      split at h2
      ·rename_i hu
       simp [Builtin.len_,run_underlying hu,goInt]
      ·cases h2
      cases h2
     ·simp only [Oie] at hv
      subst hv
      simp only [VR] at hr
      refine good_val h (v:=.int .i64 0) ?_ (by show VR G (.lit _) _;unfold VR;exact ⟨rfl,rfl⟩)
      rw [hr.1]
      split at h2
      ·cases h2
      ·rename_i el hu
       simp [Builtin.len_,run_underlying hu,goInt]
      cases h2
     cases hv
    cases hm
   cases hm
 | app sz by_ s x =>
   simp only [aop,Obe] at he
   obtain ⟨sv,h1,xv,h2,so,h3,xo,h4,h5⟩:=he
   simp only [mOp] at hm
   split at hm
   ·rename_i c ho
    split at hm
    ·rename_i s' x' t t' hcal hargs htys
     simp only [Bae,beq_iff_eq] at hm
     obtain ⟨⟨⟨m1,m2⟩,rfl⟩,m3⟩:=hm
     obtain ⟨v,w',hr,hG⟩:=sim_app (ty:=o.type) h m1 m2 m3 h1 h2 h3 h4 h5
     have ea:c.args=#[s',x']:=Array.ext' (by simpa using hargs)
     have et:c.argTypes=#[t,t]:=Array.ext' (by simpa using htys)
     simp only [execOp,ho,resolve,hcal,Sem.run_bind,Sem.run_pure,Result.andThen_ok,invoke,builtin,ea,et]
     have e2:(#[s',x']:Array Operand).map a.eval=#[a.eval s',a.eval x']:=by simp
     rw [e2]
     refine good_ex ⟨v,w',?_,hG⟩
     rw [hr];rfl
    cases hm
   cases hm
 | sl sz x lo hi mx =>
   simp only [aop,Obe,Oie,Pie] at he
   obtain ⟨p,hp,v,hv,rfl,rfl⟩:=he
   simp only [mOp] at hm
   split at hm
   ·rename_i t x' lo' hi' mx' ho
    simp only [Bae,beq_iff_eq] at hm
    obtain ⟨⟨⟨⟨⟨m1,m2⟩,m3⟩,m4⟩,m5⟩,m6⟩:=hm
    obtain ⟨u,hr,hu⟩:=sim_sl h m1 m2 m3 m4 (fun hh=>by simpa [hh] using m5) m6 hp hv
    simp only [execOp,ho]
    exact good_val h (run_v hr) hu
   cases hm
 | sls x lo hi =>
   simp only [aop,Obe,Oie,Pie] at he
   obtain ⟨p,hp,v,hv,rfl,rfl⟩:=he
   simp only [mOp] at hm
   split at hm
   ·rename_i t x' lo' hi' ho
    simp only [Bae] at hm
    obtain ⟨⟨⟨m1,m2⟩,m3⟩,m4⟩:=hm
    split at m4
    ·rename_i hu
     obtain ⟨u,hr,hu⟩:=sim_sls h m1 m2 m3 hu hp hv
     simp only [execOp,ho,Option.map_none]
     exact good_val h (run_v hr) hu
    cases m4
   cases hm
 | dfr f as =>
   simp only [aop,Obe,Oie,Pie] at he
   obtain ⟨g,h1,l,h2,fr1,h3,rfl,rfl⟩:=he
   simp only [mOp] at hm
   split at hm
   ·rename_i c ho
    simp only [Bae] at hm
    obtain ⟨d',hr,hG⟩:=sim_dfr (P:=P) h (ty:=o.type) hm.1 hm.2 h1 h2 h3
    simp only [execOp,ho]
    have:(do pure (.defer (← resolve a.eval c o.type)):Sem Next).run P w=.ok (.defer d') w:=by simp [hr]
    rw [this]
    exact ⟨rfl,G,hG⟩
   cases hm
 | ldo tk rt n x =>
   simp only [aop,Obe,Oie,Pie] at he
   obtain ⟨q,hq,p,hp,v,hv,rfl,rfl⟩:=he
   simp only [mOp] at hm
   split at hm
   ·rename_i t y ho
    simp only [Bae] at hm
    obtain ⟨u,hr,hu⟩:=sim_ld (hf:=true) h hm.1 hm.2 hp (ldo_ld hv)
    simp only [execOp,ho]
    exact good_val h (run_v hr) hu
   cases hm
 | sts m n x y =>
   simp only [aop,Obe,Oie,Pie] at he
   obtain ⟨p,hp,v,hv,s',hst,rfl,rfl⟩:=he
   simp only [mOp] at hm
   split at hm
   ·rename_i t x' y' ho
    simp only [Bae,beq_iff_eq] at hm
    obtain ⟨hn,e1⟩:=sts_st (fr:=fr) (sts_K hst)
    rw [hst] at e1
    obtain ⟨w',hr,hG⟩:=sim_st h hm.1.1 hm.1.2 hm.2 (evV_some hp) hv hn e1
    simp only [execOp,ho]
    rw [run_u hr]
    exact ⟨rfl,hG⟩
   cases hm
 | tas t z ok x =>
   simp only [aop,Obe,Oie,Pie] at he
   obtain ⟨p,hp,r,hr,rfl,rfl⟩:=he
   simp only [mOp] at hm
   split at hm
   ·rename_i y st t' ok' ho
    simp only [Bae,beq_iff_eq] at hm
    obtain ⟨⟨⟨⟨h1,rfl⟩,rfl⟩,h2⟩,h3⟩:=hm
    split at h3
    ·rename_i zv hz
     have hv:=h.evV h1 hp
     have hzv:=(cok_sound G z zv h3).1
     have hu:∃ d,P.underlying t=some d ∧ ∀ ms,d ≠ .interface ms:=by
      unfold notIface at h2
      split at h2
      ·cases h2
      ·rename_i d hne hd;exact ⟨d,hd,fun ms e=>hne ms e⟩
      cases h2
     obtain ⟨d,hu,hni⟩:=hu
     simp only [execOp,ho]
     cases p with
     | iface t' v =>
       simp only [VR] at hv
       obtain ⟨u,e,hv⟩:=hv
       rw [e]
       simp only [tasOf] at hr
       split at hr
       ·rename_i e1
        subst e1
        simp only [Oie] at hr
        subst hr
        refine good_val h (v:=if ok then .tuple #[u,.bool true] else u) (run_v ?_) ?_
        ·simp only [Instr.typeAssert,Sem.run_bind,run_underlying hu,Result.andThen_ok]
         cases d <;> first | exact absurd rfl (hni _) | simp
        cases ok
        ·exact hv
        exact ⟨[u,.bool true],rfl,by simp only [VRs];exact ⟨u,_,rfl,hv,_,[],rfl,(by unfold VR;exact ⟨rfl,rfl⟩),rfl⟩⟩
       rename_i e1
       split at hr
       ·rename_i hok
        simp only [Oie] at hr
        subst hr hok
        refine good_val h (v:=.tuple #[zv,.bool false]) (run_v ?_) ⟨[zv,.bool false],rfl,by simp only [VRs];exact ⟨zv,_,rfl,hzv,_,[],rfl,(by unfold VR;exact ⟨rfl,rfl⟩),rfl⟩⟩
        simp only [Instr.typeAssert,Sem.run_bind,run_underlying hu,Result.andThen_ok]
        cases d <;> first | exact absurd rfl (hni _) | simp [e1,run_zeroOf hz]
       cases hr
     | lit q =>
       cases q with
       | nilIface =>
         simp only [tasOf] at hr
         split at hr
         ·rename_i hok
          simp only [Oie] at hr
          subst hr hok
          simp only [VR] at hv
          rw [hv.1]
          refine good_val h (v:=.tuple #[zv,.bool false]) (run_v ?_) ⟨[zv,.bool false],rfl,by simp only [VRs];exact ⟨zv,_,rfl,hzv,_,[],rfl,(by unfold VR;exact ⟨rfl,rfl⟩),rfl⟩⟩
          simp only [Instr.typeAssert,Sem.run_bind,run_underlying hu,Result.andThen_ok]
          cases d <;> first | exact absurd rfl (hni _) | simp [run_zeroOf hz]
         cases hr
       | _=>simp [tasOf] at hr
     | _=>simp [tasOf] at hr
    cases h3
   cases hm
 | inv tb x as =>
   simp only [aop,Obe,Oie,Pie] at he
   obtain ⟨g,h1,l,h2,⟨res,s'⟩,h3,rfl,rfl⟩:=he
   simp only [mOp] at hm
   split at hm
   ·rename_i c ho
    split at hm
    ·rename_i recv name hcal
     simp only [Bae] at hm
     obtain ⟨⟨m1,m2⟩,m3⟩:=hm
     cases g with
     | iface t v =>
       simp only [invOf,Obe] at h3
       obtain ⟨q,hq,h3⟩:=h3
       have hqt:q.1=t:=by simpa using List.find?_some hq
       have hmm:=List.all_eq_true.1 m3 q (List.mem_of_find?_eq_some hq)
       rw [hqt] at hmm
       have hv:=h.evV m1 h1
       simp only [VR] at hv
       obtain ⟨u,e,hv⟩:=hv
       have hl:=h.evVs m2 h2
       obtain ⟨hr,hcalls⟩:=sim_into h hc (vs:=u :: c.args.toList.map a.eval) (by simp only [VRs];exact ⟨_,_,rfl,hv,hl⟩) h3
       simp only [execOp,ho,resolve,hcal,Sem.run_bind,Sem.run_pure,Result.andThen_ok,invoke]
       have ea:(#[a.eval recv] ++ c.args.map a.eval)[0]?=some (a.eval recv):=by rw [Array.getElem?_append_left (Nat.zero_lt_one)];rfl
       rw [ea]
       simp only [e,callMethod]
       have eb:(#[u] ++ ((#[a.eval recv] ++ c.args.map a.eval).extract 1 (#[a.eval recv] ++ c.args.map a.eval).size))=(u :: c.args.toList.map a.eval).toArray:=Array.ext' (by simp;exact List.take_of_length_le (by simp))
       rw [e] at eb
       have em:=run_meth (P:=P) (w:=w) hmm u
       simp only [Sem.run_bind,Sem.run,program,Result.andThen] at em ⊢
       erw [em]
       simp only [Result.andThen_ok]
       rw [eb]
       erw [hr]
       refine hcalls.mono ?_
       rintro e w'' ⟨v,rfl,G',r1,r2⟩
       exact ⟨v,rfl,G',r1,fun x hx=>by cases hx;exact r2⟩
     | _=>simp [invOf] at h3
    cases hm
   cases hm
 | callq ks f as =>
   simp only [aop,Obe] at he
   obtain ⟨g,h1,l,h2,⟨res,s'⟩,h3,he⟩:=he
   obtain ⟨hk,e⟩:=qres_some he
   cases e
   simp only [mOp] at hm
   split at hm
   ·rename_i c ho
    simp only [Bae] at hm
    obtain ⟨f',args,hr,hcalls⟩:=sim_call h hc (ty:=o.type) hm.1 hm.2 h1 h2 h3
    simp only [execOp,ho]
    rw [hr]
    refine hcalls.mono ?_
    rintro e w'' ⟨v,rfl,G',r1,r2⟩
    exact ⟨v,rfl,G',r1,fun x hx=>by cases hx;exact r2⟩
   cases hm
 | wop k xs =>
   simp only [aop,Obe,Oie,Pie] at he
   obtain ⟨l,h1,⟨av,s'⟩,h2,rfl,rfl⟩:=he
   simp only [mOp] at hm
   split at hm
   ·rename_i sz by_ z x y t x' y' ho
    simp only [Bae] at hm
    obtain ⟨⟨m1,m2⟩,m3⟩:=hm
    simp only [Sim.evVs,Obe,Oie] at h1
    obtain ⟨p,hp,l1,⟨q,hq,l2,rfl,rfl⟩,rfl⟩:=h1
    simp only [wopOf,Obe] at h2
    obtain ⟨n,hn,m,hm',h2⟩:=h2
    obtain ⟨kn,e1⟩:=asN_R (h.evV m1 hp) hn
    obtain ⟨km,e2⟩:=asN_R (h.evV m2 hq) hm'
    obtain ⟨u,w',hr,G',g1,g2⟩:=sim_mks (kn:=kn) (km:=km) h m3 h2
    simp only [execOp,ho]
    rw [e1,e2]
    exact good_ex ⟨u,w',run_v hr,G',g1,fun x hx=>by cases hx;exact g2⟩
   ·rename_i len sz n x i t y k ho
    simp only [Bae] at hm
    obtain ⟨⟨m1,m2⟩,m3⟩:=hm
    simp only [Sim.evVs,Obe,Oie] at h1
    obtain ⟨p,hp,l1,⟨q,hq,l2,rfl,rfl⟩,rfl⟩:=h1
    simp only [wopOf,Obe,Oie,Pie] at h2
    obtain ⟨j,hj,v,hv,rfl,rfl⟩:=h2
    obtain ⟨kn,e1⟩:=asN_R (h.evV m2 hq) hj
    obtain ⟨u,hr,hu⟩:=sim_ixv (P:=P) (w:=w) (k:=kn) m3 (h.evV m1 hp) hv
    simp only [execOp,ho]
    rw [e1]
    exact good_val h (run_v hr) hu
   ·rename_i ng x op' t x' y' t' ho
    simp only [Bae,Dte] at hm
    obtain ⟨⟨rfl,m2⟩,m3⟩:=hm
    simp only [Sim.evVs,Obe,Oie] at h1
    obtain ⟨p,hp,l1,rfl,rfl⟩:=h1
    simp only [wopOf,Obe,Oie,Pie] at h2
    obtain ⟨b,hb,rfl,rfl⟩:=h2
    obtain ⟨hu,rfl⟩:=mNilS_inv m3
    obtain ⟨ad,len,cap,e1,e2⟩:=snl_R (h.evV m2 hp) hb
    obtain ⟨el,hu⟩:=hu
    simp only [execOp,ho]
    refine good_val h (v:=.bool (if ng then !b else b)) ?_ (by show VR G (.lit _) _;unfold VR;exact ⟨rfl,rfl⟩)
    subst e2
    rw [e1]
    have heq:∀ n,(Op.equalIn (n + 1) t (.slice (some ad) len cap) (.slice none 0 0)).run P w=.ok false w:=by
     intro n
     simp [Op.equalIn,run_underlying hu]
    cases ng <;> simp [eqGuard,binOp,Op.equal,Op.maxDepth,heq,Act.eval]
   ·rename_i t x t' y ho
    simp only [Bae,beq_iff_eq] at hm
    obtain ⟨⟨rfl,m1⟩,m2⟩:=hm
    simp only [Sim.evVs,Obe,Oie] at h1
    obtain ⟨p,hp,l1,rfl,rfl⟩:=h1
    simp only [wopOf,Oie,Pie] at h2
    obtain ⟨rfl,rfl⟩:=h2
    have hu:∃ d,P.underlying t=some d ∧ ∀ ms,d ≠ .interface ms:=by
     unfold notIface at m2
     split at m2
     ·cases m2
     ·rename_i d hne hd;exact ⟨d,hd,fun ms e=>hne ms e⟩
     cases m2
    obtain ⟨d,hu,hni⟩:=hu
    simp only [execOp,ho]
    refine good_val h (v:=.iface t (a.eval y)) (run_v ?_) (by show VR G (.iface t p) _;simp only [VR];exact ⟨_,rfl,h.evV m1 hp⟩)
    simp only [Instr.makeInterface,Sem.run_bind,run_underlying hu,Result.andThen_ok]
    cases d <;> first | exact absurd rfl (hni _) | simp
   ·rename_i ng x op' t x' y' t' ho
    simp only [Bae,Dte] at hm
    obtain ⟨⟨rfl,m2⟩,m3⟩:=hm
    simp only [Sim.evVs,Obe,Oie] at h1
    obtain ⟨p,hp,l1,rfl,rfl⟩:=h1
    simp only [wopOf,Obe,Oie,Pie] at h2
    obtain ⟨b,hb,rfl,rfl⟩:=h2
    obtain ⟨⟨el,hu⟩,rfl⟩:=mNilI_inv m3
    have hv:=h.evV m2 hp
    simp only [execOp,ho]
    refine good_val h (v:=.bool (if ng then !b else b)) ?_ (by show VR G (.lit _) _;unfold VR;exact ⟨rfl,rfl⟩)
    have heq:∀ n,(Op.equalIn (n + 1) t (a.eval x') .nilIface).run P w=.ok b w:=by
     intro n
     cases p with
     | iface t' v =>
       simp only [VR] at hv
       obtain ⟨u,e,_⟩:=hv
       simp only [ifnOf,Oie] at hb
       rw [e,← hb]
       simp [Op.equalIn,run_underlying hu]
     | lit q =>
       cases q with
       | nilIface =>
         simp only [VR] at hv
         simp only [ifnOf,Oie] at hb
         rw [hv.1,← hb]
         simp [Op.equalIn,run_underlying hu]
       | _=>simp [ifnOf] at hb
     | _=>simp [ifnOf] at hb
    have hg:(eqGuard (if ng then .neq else .eql) t x' (.const .nilIface) (a.eval x') .nilIface).run P w=.ok () w:=by
     unfold eqGuard
     cases ng <;> simp <;> cases a.eval x' <;> simp
    have hcn:a.eval (.const .nilIface)=.nilIface:=rfl
    rw [hcn]
    simp only [Sem.run_bind,hg,Result.andThen_ok]
    cases ng <;> simp [binOp,Op.equal,Op.maxDepth,heq]
   ·simp only [wopOf,reduceCtorEq] at h2
   ·rename_i n x t y ho
    simp only [Bae] at hm
    obtain ⟨m1,m2⟩:=hm
    simp only [Sim.evVs,Obe,Oie] at h1
    obtain ⟨p,hp,l1,rfl,rfl⟩:=h1
    simp only [wopOf] at h2
    cases p <;> simp only [ldzOf,reduceCtorEq] at h2
    rename_i id off
    obtain ⟨v,h3,h4⟩:=Obe.1 h2
    have hld:ldAt fr true n (.val (.ptr id off))=some v:=by simp only [ldAt,if_true];exact h3
    obtain ⟨u,hr,hu⟩:=sim_ld h m1 m2 (evV_some hp) hld
    obtain ⟨G',g1,g2⟩:=sim_frzV h hu h4
    simp only [execOp,ho]
    exact good_ex ⟨u,w,run_v hr,G',g1,fun x hx=>by cases hx;exact g2⟩
   ·rename_i z ps xs t qs ho
    simp only [Bae] at hm
    simp only [wopOf] at h2
    obtain ⟨cs,h3,h4⟩:=Obe.1 h2
    obtain ⟨u,hr,hu⟩:=sim_build h hm.1 hm.2 (evPs_zip h1) h3
    obtain ⟨G',g1,g2⟩:=sim_frzV h hu h4
    simp only [execOp,ho]
    exact good_ex ⟨u,w,run_v hr,G',g1,fun x hx=>by cases hx;exact g2⟩
   ·rename_i n x t y ho
    simp only [Bae] at hm
    obtain ⟨m1,m2⟩:=hm
    simp only [Sim.evVs,Obe,Oie] at h1
    obtain ⟨p,hp,l1,rfl,rfl⟩:=h1
    simp only [wopOf,Obe,Oie,Pie] at h2
    obtain ⟨v,h2,rfl,rfl⟩:=h2
    have hld:ldAt fr true n (.val p)=some v:=by
     cases p <;> simp only [ldvOf,reduceCtorEq] at h2 <;> simp only [ldAt,if_true] <;> exact h2
    obtain ⟨u,hr,hu⟩:=sim_ld h m1 m2 (evV_some hp) hld
    simp only [execOp,ho]
    exact good_val h (run_v hr) hu
   ·rename_i x t t' y ho
    simp only [Bae] at hm
    obtain ⟨m1,m2⟩:=hm
    simp only [Sim.evVs,Obe,Oie] at h1
    obtain ⟨p,hp,l1,rfl,rfl⟩:=h1
    simp only [wopOf,Obe,Oie,Pie] at h2
    obtain ⟨v,h2,rfl,rfl⟩:=h2
    unfold mS2b at m2
    simp only [Bae] at m2
    obtain ⟨m2,m3⟩:=m2
    obtain ⟨d,hd⟩:=Option.isSome_iff_exists.1 m2
    split at m3
    ·rename_i e he1
     split at m3
     ·rename_i he2
      obtain ⟨u,w',hr,G',g1,g2⟩:=sim_s2b h hd he1 he2 (h.evV m1 hp) h2
      simp only [execOp,ho]
      exact good_ex ⟨u,w',run_v hr,G',g1,fun x hx=>by cases hx;exact g2⟩
     cases m3
    cases m3
   ·rename_i sz len ps t len' qs ho
    simp only [Bae,beq_iff_eq] at hm
    obtain ⟨rfl,m2⟩:=hm
    simp only [wopOf] at h2
    obtain ⟨u,w',hr,G',g1,g2⟩:=sim_bslm h m2 h1 h2
    simp only [execOp,ho]
    exact good_ex ⟨u,w',run_v hr,G',g1,fun x hx=>by cases hx;exact g2⟩
   ·rename_i g sz cs i t g' k ho
    simp only [Bae,beq_iff_eq] at hm
    obtain ⟨⟨rfl,m2⟩,m3⟩:=hm
    simp only [Sim.evVs,Obe,Oie] at h1
    obtain ⟨p,hp,l1,rfl,rfl⟩:=h1
    simp only [wopOf,Obe,Oie,Pie] at h2
    obtain ⟨n,hn,v,hv,rfl,rfl⟩:=h2
    obtain ⟨kn,e1⟩:=asN_R (h.evV m2 hp) hn
    obtain ⟨u,hr,hu⟩:=sim_gad (P:=P) (kn:=kn) h m3 hv
    simp only [execOp,ho]
    rw [e1]
    exact good_val h (run_v hr) hu
   ·rename_i sz x y ho
    simp only [Sim.evVs,Obe,Oie] at h1
    obtain ⟨p,hp,l1,rfl,rfl⟩:=h1
    simp only [wopOf] at h2
    obtain ⟨G',g1,g2,_,_⟩:=sim_frz h (h.evV hm hp) h2
    simp only [execOp,ho]
    exact good_ex ⟨a.eval y,w,rfl,G',g1,fun x hx=>by cases hx;exact g2⟩
   ·rename_i sz x y ho
    simp only [Sim.evVs,Obe,Oie] at h1
    obtain ⟨p,hp,l1,rfl,rfl⟩:=h1
    simp only [wopOf] at h2
    obtain ⟨G',g1,g2,_,_⟩:=sim_frz h (h.evV hm hp) h2
    simp only [execOp,ho]
    exact good_ex ⟨a.eval y,w,rfl,G',g1,fun x hx=>by cases hx;exact g2⟩
   ·rename_i sz by_ s x c ho
    split at hm
    ·rename_i s' x' t t' hcal hargs htys
     simp only [Bae,beq_iff_eq] at hm
     obtain ⟨⟨⟨m1,m2⟩,rfl⟩,m3⟩:=hm
     simp only [Sim.evVs,Obe,Oie] at h1
     obtain ⟨p,hp,l1,⟨q,hq,l2,rfl,rfl⟩,rfl⟩:=h1
     simp only [wopOf] at h2
     obtain ⟨v,w',hr,G',g1,g2⟩:=sim_appm (ty:=o.type) h m3 (VR_nilS (h.evV m1 hp)) (h.evV m2 hq) h2
     have ea:c.args=#[s',x']:=Array.ext' (by simpa using hargs)
     have et:c.argTypes=#[t,t]:=Array.ext' (by simpa using htys)
     simp only [execOp,ho,resolve,hcal,Sem.run_bind,Sem.run_pure,Result.andThen_ok,invoke,builtin,ea,et]
     have e2:(#[s',x']:Array Operand).map a.eval=#[a.eval s',a.eval x']:=by simp
     rw [e2]
     refine good_ex ⟨v,w',?_,G',g1,fun x hx=>by cases hx;exact g2⟩
     rw [hr];rfl
    cases hm
   ·rename_i sz s x c ho
    split at hm
    ·rename_i s' x' t t' hcal hargs htys
     simp only [Bae] at hm
     obtain ⟨⟨m1,m2⟩,m3⟩:=hm
     split at m3
     ·rename_i e hu
      have m4:szOf P e=some sz:=by simpa using m3
      simp only [Sim.evVs,Obe,Oie] at h1
      obtain ⟨p,hp,l1,⟨q,hq,l2,rfl,rfl⟩,rfl⟩:=h1
      simp only [wopOf] at h2
      obtain ⟨v,w',hr,G',g1,g2⟩:=sim_cpy (t:=t) (t2:=t') (ty:=o.type) h hu m4 (h.evV m1 hp) (h.evV m2 hq) h2
      have ea:c.args=#[s',x']:=Array.ext' (by simpa using hargs)
      have et:c.argTypes=#[t,t']:=Array.ext' (by simpa using htys)
      simp only [execOp,ho,resolve,hcal,Sem.run_bind,Sem.run_pure,Result.andThen_ok,invoke,builtin,ea,et]
      have e2:(#[s',x']:Array Operand).map a.eval=#[a.eval s',a.eval x']:=by simp
      rw [e2]
      refine good_ex ⟨v,w',?_,G',g1,fun x hx=>by cases hx;exact g2⟩
      rw [hr];rfl
     cases m3
    cases hm
   cases hm
end
end Go.Sim
namespace Go.Sim
open Go
def AO.rs:AO → List Nat
 | .t n=>[n]
 | _=>[]
def rsO:Option AO → List Nat
 | some x=>x.rs
 | none=>[]
def rsL (l:List AO):List Nat:=l.flatMap AO.rs
def rsP (l:List (Nat × Nat × AO)):List Nat:=l.flatMap fun x=>x.2.2.rs
def WOp.rg:WOp → Bool
 | .ixv _ _ _=>false
 | .snl _=>false
 | .mki _=>false
 | .ifn _=>false
 | .s2b=>false
 | _=>true
def WOp.wg:WOp → Bool
 | .ldv _=>false
 | k=>k.rg
theorem wop_same {k:WOp} (h:k.wg=false) {s:Sg} {l:List AV} {r:AV × Sg} (e:wopOf k s l=some r) (hr:k.rg=true):r.2=s:=by
 cases k <;> simp only [WOp.wg,WOp.rg,reduceCtorEq] at h hr
 rename_i n
 unfold wopOf at e
 split at e <;> first
  | (simp only [Obe,Oie] at e;obtain ⟨_,_,rfl⟩:=e;rfl)
  | (simp_all;done)
def AOp.rs:AOp → List Nat
 | .mv x=>x.rs
 | .pick c a b=>c.rs ++ a.rs ++ b.rs
 | .alloc _ _=>[]
 | .box _ x=>x.rs
 | .build _ ps=>rsP ps
 | .bsl _ ps=>rsL ps
 | .ld _ _ a=>a.rs
 | .st _ _ a x=>a.rs ++ x.rs
 | .nck x=>x.rs
 | .bin _ x y=>x.rs ++ y.rs
 | .beq _ x y=>x.rs ++ y.rs
 | .peq _ x y=>x.rs ++ y.rs
 | .mmx _ x y=>x.rs ++ y.rs
 | .aeq _ _ x y=>x.rs ++ y.rs
 | .unot x=>x.rs
 | .uneg x=>x.rs
 | .cvt _ x=>x.rs
 | .mkf _ fs cs=>rsL fs ++ rsL cs
 | .mkm _=>[]
 | .fa _ x=>x.rs
 | .fld _ _ x=>x.rs
 | .ia _ x i=>x.rs ++ i.rs
 | .iaa _ _ x i=>x.rs ++ i.rs
 | .ixs x i=>x.rs ++ i.rs
 | .lk _ _ _ m k=>m.rs ++ k.rs
 | .mu _ m k v=>m.rs ++ k.rs ++ v.rs
 | .dl _ m k=>m.rs ++ k.rs
 | .ext x _=>x.rs
 | .call f as=>f.rs ++ rsL as
 | .len _ x=>x.rs
 | .app _ _ s x=>s.rs ++ x.rs
 | .sl _ x lo hi mx=>x.rs ++ rsO lo ++ rsO hi ++ rsO mx
 | .sls x lo hi=>x.rs ++ rsO lo ++ rsO hi
 | .dfr f as=>f.rs ++ rsL as
 | .wop _ xs=>rsL xs
 | .ldo _ rt _ a=>rt :: a.rs
 | .callq ks f as=>ks ++ (f.rs ++ rsL as)
 | .sts _ _ a x=>a.rs ++ x.rs
 | .tas _ _ _ x=>x.rs
 | .inv _ x as=>x.rs ++ rsL as
def AOp.bar:AOp → Bool
 | .alloc true _=>true
 | .box true _=>true
 | _=>false
def AOp.rl:AOp → Bool
 | .ld _ _ _=>true
 | .st _ _ _ _=>true
 | _=>false
def AOp.wl:AOp → Bool
 | .st _ _ _ _=>true
 | _=>false
def AOp.rg:AOp → Bool
 | .ld h _ _=>h
 | .st h _ _ _=>h
 | .alloc false _=>true
 | .box false _=>true
 | .mkm _=>true
 | .lk _ _ _ _ _=>true
 | .mu _ _ _ _=>true
 | .dl _ _ _=>true
 | .call _ _=>true
 | .app _ _ _ _=>true
 | .dfr _ _=>true
 | .wop k _=>k.rg
 | .ldo _ _ _ _=>true
 | .sts _ _ _ _=>true
 | .callq _ _ _=>true
 | .inv _ _ _=>true
 | _=>false
def AOp.wg:AOp → Bool
 | .st h _ _ _=>h
 | .alloc false _=>true
 | .box false _=>true
 | .mkm _=>true
 | .mu _ _ _ _=>true
 | .dl _ _ _=>true
 | .call _ _=>true
 | .app _ _ _ _=>true
 | .dfr _ _=>true
 | .wop k _=>k.wg
 | .sts _ _ _ _=>true
 | .callq _ _ _=>true
 | .inv _ _ _=>true
 | _=>false
theorem wop_pure {k:WOp} (h:k.rg=false) (l:List AV):∃ v:Option AV,∀ s,wopOf k s l=v.map fun x=>(x,s):=by
 cases k <;> simp only [WOp.rg,reduceCtorEq] at h
 ·rename_i len sz n
  rcases l with _ | ⟨x,_ | ⟨i,_ | ⟨y,r⟩⟩⟩
  ·exact ⟨none,fun s=>rfl⟩
  ·exact ⟨none,fun s=>rfl⟩
  ·refine ⟨(asN i).bind fun i=>ixvOf len sz n i x,fun s=>?_⟩
   simp only [wopOf]
   cases asN i with
   | none=>rfl
   | some i=>simp only [Obs];cases ixvOf len sz n i x <;> rfl
  exact ⟨none,fun s=>rfl⟩
 ·rename_i ng
  rcases l with _ | ⟨x,_ | ⟨i,r⟩⟩
  ·exact ⟨none,fun s=>rfl⟩
  ·refine ⟨(snlOf x).map fun b=>.lit (.bool (if ng then !b else b)),fun s=>?_⟩
   simp only [wopOf]
   cases snlOf x <;> rfl
  exact ⟨none,fun s=>rfl⟩
 ·rename_i t
  rcases l with _ | ⟨x,_ | ⟨i,r⟩⟩
  ·exact ⟨none,fun s=>rfl⟩
  ·exact ⟨some (.iface t x),fun s=>rfl⟩
  exact ⟨none,fun s=>rfl⟩
 ·rename_i ng
  rcases l with _ | ⟨x,_ | ⟨i,r⟩⟩
  ·exact ⟨none,fun s=>rfl⟩
  ·refine ⟨(ifnOf x).map fun b=>.lit (.bool (if ng then !b else b)),fun s=>?_⟩
   simp only [wopOf]
   cases ifnOf x <;> rfl
  exact ⟨none,fun s=>rfl⟩
 rcases l with _ | ⟨x,_ | ⟨i,r⟩⟩
 ·exact ⟨none,fun s=>rfl⟩
 ·refine ⟨s2bOf x,fun s=>?_⟩
  simp only [wopOf]
  cases s2bOf x <;> rfl
 exact ⟨none,fun s=>rfl⟩
structure SameG (f f':Fr):Prop where
 nt:f.nt=f'.nt
 lv:f.lv=f'.lv
 df:f.df=f'.df
 sg:f.sg=f'.sg
structure Ag (x:AOp) (f f':Fr):Prop where
 env:∀ s,s ∈ x.rs → f.env s=f'.env s
 loc:x.rl=true → f.loc=f'.loc
 g:x.rg=true → SameG f f'
def mix (wl wg:Bool) (f g:Fr):Fr :=
 { env:=f.env,loc:=if wl then g.loc else f.loc,nt:=if wg then g.nt else f.nt,lv:=if wg then g.lv else f.lv,df:=if wg then g.df else f.df,sg:=if wg then g.sg else f.sg }
theorem ev_ag {f f':Fr} {x:AO} (h:∀ s,s ∈ x.rs → f.env s=f'.env s):ev f.env x=ev f'.env x:=by
 cases x with
 | t n=>exact h n (by simp [AO.rs])
 | _=>rfl
theorem evV_ag {f f':Fr} {x:AO} (h:∀ s,s ∈ x.rs → f.env s=f'.env s):evV f.env x=evV f'.env x:=by unfold evV;rw [ev_ag h]
theorem evVs_ag {f f':Fr}:∀ {l:List AO},(∀ s,s ∈ rsL l → f.env s=f'.env s) → evVs f.env l=evVs f'.env l
 | [],_=>rfl
 | x :: l,h=>by
   simp only [evVs]
   rw [evV_ag (x:=x) (fun s hs=>h s (by simp only [rsL,List.flatMap_cons,List.mem_append];exact .inl hs)),evVs_ag (l:=l) (fun s hs=>h s (by simp only [rsL,List.flatMap_cons,List.mem_append];exact .inr hs))]
theorem evPs_ag {f f':Fr}:∀ {l:List (Nat × Nat × AO)},(∀ s,s ∈ rsP l → f.env s=f'.env s) → evPs f.env l=evPs f'.env l
 | [],_=>rfl
 | (a,b,x) :: l,h=>by
  simp only [evPs]
  rw [evV_ag (x:=x) (fun s hs=>h s (by simp only [rsP,List.flatMap_cons,List.mem_append];exact .inl hs)),evPs_ag (l:=l) (fun s hs=>h s (by simp only [rsP,List.flatMap_cons,List.mem_append];exact .inr hs))]
theorem bound_ag {f f':Fr} {x:Option AO} {n:Nat} (h:∀ s,s ∈ rsO x → f.env s=f'.env s):boundOf f.env x n=boundOf f'.env x n:=by
 cases x with
 | none=>rfl
 | some x=>simp only [boundOf];rw [evV_ag h]
theorem Fr.ext' {f g:Fr} (h1:f.env=g.env) (h2:f.loc=g.loc) (h3:SameG f g):f=g:=by
 cases f;cases g;cases h3;simp_all
theorem stv_ag {v:AV} {f f':Fr} (h:SameG f f'):(stv v f).1=(stv v f').1 ∧ SameG (stv v f).2 (stv v f').2 ∧ (stv v f).2.env=f.env ∧ (stv v f).2.loc=f.loc:=by
 obtain ⟨h1,h2,h3,h4⟩:=h
 have gen:∀ g:Fr,(v.erT,g).1=v.erT:=fun _=>rfl
 cases v with
 | slice o sz xs =>
   cases o with
   | tip t =>
     simp only [stv,h2,h4]
     split
     ·exact ⟨rfl,⟨h1,rfl,h3,rfl⟩,rfl,rfl⟩
     exact ⟨rfl,⟨h1,h2,h3,h4⟩,rfl,rfl⟩
   | _=>exact ⟨rfl,⟨h1,h2,h3,h4⟩,rfl,rfl⟩
 | _=>exact ⟨rfl,⟨h1,h2,h3,h4⟩,rfl,rfl⟩
theorem mayApp_ag {o:Own} {f f':Fr} (h:SameG f f'):mayApp o f=(mayApp o f').map (mix false true f):=by
 obtain ⟨h1,h2,h3,h4⟩:=h
 cases o with
 | none=>rfl
 | full=>simp only [mayApp,Option.map_some,Oie];exact Fr.ext' rfl rfl ⟨h1,h2,h3,h4⟩
 | tip t =>
   simp only [mayApp,h2]
   split
   ·simp only [Option.map_some,Oie];exact Fr.ext' rfl rfl ⟨h1,rfl,h3,h4⟩
   rfl
 | gt g =>
   simp only [mayApp,h4]
   split
   ·simp only [Option.map_some,Oie];exact Fr.ext' rfl rfl ⟨h1,h2,h3,rfl⟩
   rfl
theorem appOf_ag {sz b:Nat} {o:Own} {xs ys:List AV} {f f':Fr} (h:SameG f f'):appOf sz b f o xs ys=(appOf sz b f' o xs ys).map fun r=>(r.1,mix false true f r.2):=by
 cases ys with
 | nil=>simp only [appOf,Option.map_some,Oie,Pie,true_and];exact Fr.ext' rfl rfl ⟨h.nt,h.lv,h.df,h.sg⟩
 | cons y ys =>
   simp only [appOf]
   split
   ·rw [mayApp_ag h]
    cases mayApp o f' with
    | none=>rfl
    | some g=>rfl
   rfl
theorem ldAt_ag {hf:Bool} {n:Option Nat} {p:TV} {f f':Fr} (hl:f.loc=f'.loc) (hg:hf=true → SameG f f'):ldAt f hf n p=ldAt f' hf n p:=by
 cases p with
 | loc i o=>simp only [ldAt,hl]
 | tup vs=>rfl
 | und=>rfl
 | val v =>
   cases v with
   | ptr i o =>
     simp only [ldAt]
     split
     ·rename_i h;rw [(hg h).sg]
     rfl
   | mp g o =>
     simp only [ldAt]
     split
     ·rename_i h;rw [(hg h).sg]
     rfl
   | _=>rfl
theorem stAt_ag {hf:Bool} {v:AV} {p:TV} {f f':Fr} (hl:f.loc=f'.loc) (hg:hf=true → SameG f f'):stAt f hf v p=(stAt f' hf v p).map (mix true hf f):=by
 have hm:∀ (g:Nat → Option (List AV)),{ f with loc:=g }=mix true hf f { f' with loc:=g }:=by
  intro g
  cases hf with
  | false=>rfl
  | true=>exact Fr.ext' rfl rfl ⟨(hg rfl).nt,(hg rfl).lv,(hg rfl).df,(hg rfl).sg⟩
 cases p with
 | loc i o =>
   simp only [stAt,hl]
   cases f'.loc i with
   | none=>rfl
   | some cs =>
     simp only [Obs]
     split
     ·simp only [Option.map_some,Oie];exact hm _
     rfl
 | tup vs=>rfl
 | und=>rfl
 | val w =>
   cases w with
   | ptr i o =>
     simp only [stAt]
     cases hf with
     | false=>rfl
     | true =>
       have h:=hg rfl
       obtain ⟨a1,a2,a3,a4⟩:=stv_ag (v:=v) h
       simp only [if_true,h.sg]
       split
       ·split
        ·simp only [Option.map_some,Oie]
         refine Fr.ext' a3 ?_ ⟨a2.nt,a2.lv,a2.df,by simp only [a2.sg,a1];rfl⟩
         have:=(stv_ag (v:=v) (f:=f') (f':=f') ⟨rfl,rfl,rfl,rfl⟩).2.2.2
         show (stv v f).2.loc=(stv v f').2.loc
         rw [a4,this,hl]
        rfl
       rfl
   | mp g o =>
     simp only [stAt]
     cases hf with
     | false=>rfl
     | true =>
       have h:=hg rfl
       obtain ⟨a1,a2,a3,a4⟩:=stv_ag (v:=v) h
       simp only [if_true,h.sg]
       cases f'.sg.mu g with
       | none=>rfl
       | some cs =>
         simp only [Obs]
         split
         ·simp only [Option.map_some,Oie]
          refine Fr.ext' a3 ?_ ⟨a2.nt,a2.lv,a2.df,by simp only [a2.sg,a1];rfl⟩
          have:=(stv_ag (v:=v) (f:=f') (f':=f') ⟨rfl,rfl,rfl,rfl⟩).2.2.2
          show (stv v f).2.loc=(stv v f').2.loc
          rw [a4,this,hl]
         rfl
   | _=>rfl
theorem mem_l {α:Type} {a b:List α} {s:α} (h:s ∈ a):s ∈ a ++ b:=List.mem_append_left _ h
theorem mem_r {α:Type} {a b:List α} {s:α} (h:s ∈ b):s ∈ a ++ b:=List.mem_append_right _ h
theorem keeps_ag {e e':Nat → Option TV} {s s':Sg}:∀ {ks:List Nat},(∀ k,k ∈ ks → e k=e' k) → (keeps e s s' ks ↔ keeps e' s s' ks)
 | [],_=>Iff.rfl
 | k :: ks,h=>by
   simp only [keeps,h k (List.mem_cons_self ..),keeps_ag (ks:=ks) (fun j hj=>h j (List.mem_cons_of_mem _ hj))]
theorem aop_ag {call:Caller} {d:Option Nat} {x:AOp} {f f':Fr} (hb:x.bar=false) (h:Ag x f f'):aop call d x f=(aop call d x f').map fun r=>(r.1,mix x.wl x.wg f r.2):=by
 have hs:=h.env
 cases x with
 | mv x=>simp only [aop,ev_ag (x:=x) hs];cases ev f'.env x <;> rfl
 | pick c p q =>
   simp only [aop,evV_ag (x:=c) (fun s m=>hs s (mem_l (mem_l m))),ev_ag (x:=p) (fun s m=>hs s (mem_l (mem_r m))),ev_ag (x:=q) (fun s m=>hs s (mem_r m))]
   cases evV f'.env c with
   | none=>rfl
   | some v =>
     simp only [Obs]
     cases asB v with
     | none=>rfl
     | some t =>
       simp only [Obs]
       cases (if t=true then ev f'.env p else ev f'.env q) <;> rfl
 | alloc lc z =>
   cases lc with
   | true=>cases hb
   | false =>
     have hg:=h.g rfl
     simp only [aop,Option.map_some,Oie,Pie,hg.sg,true_and]
     exact Fr.ext' rfl rfl ⟨hg.nt,hg.lv,hg.df,rfl⟩
 | box lc y =>
   cases lc with
   | true=>cases hb
   | false =>
     have hg:=h.g rfl
     simp only [aop,evV_ag (x:=y) hs,hg.sg]
     cases evV f'.env y with
     | none=>rfl
     | some v =>
       simp only [Obs,Option.map_some,Oie,Pie,true_and]
       exact Fr.ext' rfl rfl ⟨hg.nt,hg.lv,hg.df,rfl⟩
 | build z ps =>
   simp only [aop,evPs_ag (l:=ps) hs]
   cases evPs f'.env ps with
   | none=>rfl
   | some l=>simp only [Obs];cases fillA z l <;> rfl
 | bsl sz ps =>
   simp only [aop,evVs_ag (l:=ps) hs]
   cases evVs f'.env ps with
   | none=>rfl
   | some l=>simp only [Obs];split <;> rfl
 | ld hf n y =>
   simp only [aop,ev_ag (x:=y) hs]
   cases ev f'.env y with
   | none=>rfl
   | some p =>
     have hl:=ldAt_ag (hf:=hf) (n:=n) (p:=p) (h.loc rfl) h.g
     simp only [Obs,hl]
     cases ldAt f' hf n p <;> rfl
 | st hf n y v =>
   simp only [aop,ev_ag (x:=y) (fun s m=>hs s (mem_l m)),evV_ag (x:=v) (fun s m=>hs s (mem_r m))]
   cases ev f'.env y with
   | none=>rfl
   | some p =>
     simp only [Obs]
     cases evV f'.env v with
     | none=>rfl
     | some u =>
       simp only [Obs]
       split
       ·rw [stAt_ag (hf:=hf) (h.loc rfl) h.g]
        cases stAt f' hf u p <;> rfl
       rfl
 | nck y =>
   simp only [aop,ev_ag (x:=y) hs]
   cases ev f'.env y with
   | none=>rfl
   | some p=>simp only [Obs];cases nckOf p <;> rfl
 | bin op y z =>
   simp only [aop,evV_ag (x:=y) (fun s m=>hs s (mem_l m)),evV_ag (x:=z) (fun s m=>hs s (mem_r m))]
   cases evV f'.env y with
   | none=>rfl
   | some p =>
     cases evV f'.env z with
     | none=>rfl
     | some q=>simp only [Obs];cases abin op p q <;> rfl
 | beq ng y z =>
   simp only [aop,evV_ag (x:=y) (fun s m=>hs s (mem_l m)),evV_ag (x:=z) (fun s m=>hs s (mem_r m))]
   cases evV f'.env y with
   | none=>rfl
   | some p =>
     simp only [Obs]
     cases asB p with
     | none=>rfl
     | some b =>
       simp only [Obs]
       cases evV f'.env z with
       | none=>rfl
       | some q=>simp only [Obs];cases asB q <;> rfl
 | peq ng y z =>
   simp only [aop,ev_ag (x:=y) (fun s m=>hs s (mem_l m)),ev_ag (x:=z) (fun s m=>hs s (mem_r m))]
   cases ev f'.env y with
   | none=>rfl
   | some p =>
     simp only [Obs]
     cases isNilP p with
     | none=>rfl
     | some b =>
       simp only [Obs]
       cases ev f'.env z with
       | none=>rfl
       | some q =>
         simp only [Obs]
         cases isNilP q with
         | none=>rfl
         | some b'=>simp only [Obs];split <;> rfl
 | mmx mx y z =>
   simp only [aop,evV_ag (x:=y) (fun s m=>hs s (mem_l m)),evV_ag (x:=z) (fun s m=>hs s (mem_r m))]
   cases evV f'.env y with
   | none=>rfl
   | some p =>
     cases evV f'.env z with
     | none=>rfl
     | some q=>simp only [Obs];cases mmOf mx p q <;> rfl
 | aeq ng ks y z =>
   simp only [aop,evV_ag (x:=y) (fun s m=>hs s (mem_l m)),evV_ag (x:=z) (fun s m=>hs s (mem_r m))]
   cases evV f'.env y with
   | none=>rfl
   | some p =>
     cases evV f'.env z with
     | none=>rfl
     | some q=>simp only [Obs];cases aeqOf ks p q <;> rfl
 | unot y =>
   simp only [aop,evV_ag (x:=y) hs]
   cases evV f'.env y with
   | none=>rfl
   | some p=>simp only [Obs];cases asB p <;> rfl
 | uneg y =>
   simp only [aop,evV_ag (x:=y) hs]
   cases evV f'.env y with
   | none=>rfl
   | some p=>simp only [Obs];cases negOf p <;> rfl
 | cvt k y =>
   simp only [aop,evV_ag (x:=y) hs]
   cases evV f'.env y with
   | none=>rfl
   | some p=>simp only [Obs];cases asN p <;> rfl
 | mkf g fs cs =>
   simp only [aop,evVs_ag (l:=fs) (fun s m=>hs s (mem_l m)),evVs_ag (l:=cs) (fun s m=>hs s (mem_r m))]
   cases evVs f'.env fs with
   | none=>rfl
   | some p=>simp only [Obs];cases evVs f'.env cs <;> rfl
 | mkm kk =>
   have hg:=h.g rfl
   simp only [aop,Option.map_some,Oie,Pie,hg.sg,true_and]
   exact Fr.ext' rfl rfl ⟨hg.nt,hg.lv,hg.df,rfl⟩
 | fa off y =>
   simp only [aop,ev_ag (x:=y) hs]
   cases ev f'.env y with
   | none=>rfl
   | some p=>simp only [Obs];cases faOf off p <;> rfl
 | fld off n y =>
   simp only [aop,evV_ag (x:=y) hs]
   cases evV f'.env y with
   | none=>rfl
   | some p=>simp only [Obs];cases fldOf off n p <;> rfl
 | ia sz y z =>
   simp only [aop,evV_ag (x:=y) (fun s m=>hs s (mem_l m)),evV_ag (x:=z) (fun s m=>hs s (mem_r m))]
   cases evV f'.env y with
   | none=>rfl
   | some p =>
     cases evV f'.env z with
     | none=>rfl
     | some q =>
       simp only [Obs]
       cases asN q with
       | none=>rfl
       | some n=>simp only [Obs];cases iaOf sz n p <;> rfl
 | iaa len sz y z =>
   simp only [aop,ev_ag (x:=y) (fun s m=>hs s (mem_l m)),evV_ag (x:=z) (fun s m=>hs s (mem_r m))]
   cases ev f'.env y with
   | none=>rfl
   | some p =>
     cases evV f'.env z with
     | none=>rfl
     | some q =>
       simp only [Obs]
       cases asN q with
       | none=>rfl
       | some n =>
         simp only [Obs]
         split
         ·cases faOf (n.toNat * sz) p <;> rfl
         rfl
 | ixs y z =>
   simp only [aop,evV_ag (x:=y) (fun s m=>hs s (mem_l m)),evV_ag (x:=z) (fun s m=>hs s (mem_r m))]
   cases evV f'.env y with
   | none=>rfl
   | some p =>
     cases evV f'.env z with
     | none=>rfl
     | some q =>
       simp only [Obs]
       cases asN q with
       | none=>rfl
       | some n=>simp only [Obs];cases ixsOf n p <;> rfl
 | lk kk z ok m k =>
   have hg:=h.g rfl
   simp only [aop,evV_ag (x:=m) (fun s q=>hs s (mem_l q)),evV_ag (x:=k) (fun s q=>hs s (mem_r q)),hg.sg]
   cases evV f'.env m with
   | none=>rfl
   | some p =>
     cases evV f'.env k with
     | none=>rfl
     | some q =>
       simp only [Obs]
       cases keyOf kk q with
       | none=>rfl
       | some key=>simp only [Obs];cases lkOf f'.sg kk key p <;> rfl
 | sts m n y v =>
   have hg:=h.g rfl
   simp only [aop,evV_ag (x:=y) (fun s q=>hs s (mem_l q)),evV_ag (x:=v) (fun s q=>hs s (mem_r q)),hg.sg]
   cases evV f'.env y with
   | none=>rfl
   | some p =>
     simp only [Obs]
     cases evV f'.env v with
     | none=>rfl
     | some u =>
       simp only [Obs]
       cases stsS m n f'.sg u p with
       | none=>rfl
       | some r=>simp only [Obs,Option.map_some,Oie,Pie,true_and];exact Fr.ext' rfl rfl ⟨hg.nt,hg.lv,hg.df,rfl⟩
 | tas t z ok y =>
   simp only [aop,evV_ag (x:=y) hs]
   cases evV f'.env y with
   | none=>rfl
   | some p=>simp only [Obs];cases tasOf t z ok p <;> rfl
 | inv tb g as =>
   have hg:=h.g rfl
   simp only [aop,evV_ag (x:=g) (fun s q=>hs s (mem_l q)),evVs_ag (l:=as) (fun s q=>hs s (mem_r q)),hg.sg]
   cases evV f'.env g with
   | none=>rfl
   | some p =>
     simp only [Obs]
     cases evVs f'.env as with
     | none=>rfl
     | some l =>
       simp only [Obs]
       cases invOf call tb l f'.sg p with
       | none=>rfl
       | some r=>simp only [Obs,Option.map_some,Oie,Pie,true_and];exact Fr.ext' rfl rfl ⟨hg.nt,hg.lv,hg.df,rfl⟩
 | ldo tk rt n y =>
   have hg:=h.g rfl
   simp only [aop,ev_ag (x:=y) (fun s m=>hs s (List.mem_cons_of_mem _ m)),hs rt (List.mem_cons_self ..),hg.sg]
   cases f'.env rt with
   | none=>rfl
   | some q =>
     cases ev f'.env y with
     | none=>rfl
     | some p=>simp only [Obs];cases ldoAt tk f'.sg n q p <;> rfl
 | callq ks g as =>
   have hg:=h.g rfl
   simp only [aop,evV_ag (x:=g) (fun s q=>hs s (mem_r (mem_l q))),evVs_ag (l:=as) (fun s q=>hs s (mem_r (mem_r q))),hg.sg]
   cases evV f'.env g with
   | none=>rfl
   | some p =>
     simp only [Obs]
     cases evVs f'.env as with
     | none=>rfl
     | some l =>
       simp only [Obs]
       cases callOf call l f'.sg p with
       | none=>rfl
       | some r =>
         simp only [Obs]
         have hk:keeps f.env f.sg r.2 ks ↔ keeps f'.env f'.sg r.2 ks:=by
          rw [hg.sg]
          exact keeps_ag (fun s m=>hs s (mem_l m))
         unfold qres
         by_cases hh:keeps f'.env f'.sg r.2 ks
         ·rw [if_pos hh,if_pos (hk.2 hh)]
          simp only [Option.map_some,Oie,Pie,true_and]
          exact Fr.ext' rfl rfl ⟨hg.nt,hg.lv,hg.df,rfl⟩
         rw [if_neg hh,if_neg (fun x=>hh (hk.1 x))]
         rfl
 | wop k xs =>
   cases hk:k.rg with
   | true =>
     have hg:=h.g hk
     simp only [aop,evVs_ag (l:=xs) hs,hg.sg,AOp.wg,AOp.wl]
     cases evVs f'.env xs with
     | none=>rfl
     | some l =>
       simp only [Obs]
       cases hw:wopOf k f'.sg l with
       | none=>rfl
       | some r =>
         cases hwg:k.wg with
         | true=>simp only [Obs,Option.map_some,Oie,Pie,true_and];exact Fr.ext' rfl rfl ⟨hg.nt,hg.lv,hg.df,rfl⟩
         | false =>
           have hsame:=wop_same hwg hw hk
           simp only [Obs,Option.map_some,Oie,Pie,true_and,hsame]
           exact Fr.ext' rfl rfl ⟨rfl,rfl,rfl,hg.sg.symm⟩
   | false =>
     have hwg:k.wg=false:=by cases k <;> first | rfl | exact hk
     simp only [aop,evVs_ag (l:=xs) hs,AOp.wg,AOp.wl,hwg]
     cases evVs f'.env xs with
     | none=>rfl
     | some l =>
       obtain ⟨v,hv⟩:=wop_pure hk l
       simp only [Obs,hv]
       cases v <;> rfl
 | mu kk m k v =>
   have hg:=h.g rfl
   simp only [aop,evV_ag (x:=m) (fun s q=>hs s (mem_l (mem_l q))),evV_ag (x:=k) (fun s q=>hs s (mem_l (mem_r q))),evV_ag (x:=v) (fun s q=>hs s (mem_r q)),hg.sg]
   cases evV f'.env m with
   | none=>rfl
   | some p =>
     cases evV f'.env k with
     | none=>rfl
     | some q =>
       simp only [Obs]
       cases keyOf kk q with
       | none=>rfl
       | some key =>
         simp only [Obs]
         cases evV f'.env v with
         | none=>rfl
         | some u =>
           simp only [Obs]
           cases mapOf f'.sg kk p with
           | none=>rfl
           | some r=>simp only [Obs,Option.map_some,Oie,Pie,true_and];exact Fr.ext' rfl rfl ⟨hg.nt,hg.lv,hg.df,rfl⟩
 | dl kk m k =>
   have hg:=h.g rfl
   simp only [aop,evV_ag (x:=m) (fun s q=>hs s (mem_l q)),evV_ag (x:=k) (fun s q=>hs s (mem_r q)),hg.sg]
   cases evV f'.env m with
   | none=>rfl
   | some p =>
     cases evV f'.env k with
     | none=>rfl
     | some q =>
       simp only [Obs]
       cases keyOf kk q with
       | none=>rfl
       | some key =>
         simp only [Obs]
         cases mapOf f'.sg kk p with
         | none=>rfl
         | some r=>simp only [Obs,Option.map_some,Oie,Pie,true_and];exact Fr.ext' rfl rfl ⟨hg.nt,hg.lv,hg.df,rfl⟩
 | ext y i =>
   simp only [aop,ev_ag (x:=y) hs]
   cases ev f'.env y with
   | none=>rfl
   | some p=>simp only [Obs];cases extOf i p <;> rfl
 | call g as =>
   have hg:=h.g rfl
   simp only [aop,evV_ag (x:=g) (fun s q=>hs s (mem_l q)),evVs_ag (l:=as) (fun s q=>hs s (mem_r q)),hg.sg]
   cases evV f'.env g with
   | none=>rfl
   | some p =>
     simp only [Obs]
     cases evVs f'.env as with
     | none=>rfl
     | some l =>
       simp only [Obs]
       cases callOf call l f'.sg p with
       | none=>rfl
       | some r=>simp only [Obs,Option.map_some,Oie,Pie,true_and];exact Fr.ext' rfl rfl ⟨hg.nt,hg.lv,hg.df,rfl⟩
 | len st y =>
   simp only [aop,evV_ag (x:=y) hs]
   cases evV f'.env y with
   | none=>rfl
   | some p=>simp only [Obs];cases lenOfA st p <;> rfl
 | app sz b s y =>
   have hg:=h.g rfl
   simp only [aop,evV_ag (x:=s) (fun s q=>hs s (mem_l q)),evV_ag (x:=y) (fun s q=>hs s (mem_r q))]
   cases evV f'.env s with
   | none=>rfl
   | some p =>
     cases evV f'.env y with
     | none=>rfl
     | some q =>
       simp only [Obs]
       cases sliceOf sz p with
       | none=>rfl
       | some r1 =>
         cases sliceOf sz q with
         | none=>rfl
         | some r2=>simp only [Obs];exact appOf_ag hg
 | sl sz y lo hi mx =>
   simp only [aop,evV_ag (x:=y) (fun s q=>hs s (mem_l (mem_l (mem_l q))))]
   cases evV f'.env y with
   | none=>rfl
   | some p =>
     have:slOf sz f lo hi mx p=slOf sz f' lo hi mx p:=by
      cases p with
      | slice o sz' xs =>
        simp only [slOf,bound_ag (x:=lo) (n:=0) (fun s q=>hs s (mem_l (mem_l (mem_r q)))),bound_ag (x:=hi) (n:=xs.length) (fun s q=>hs s (mem_l (mem_r q)))]
        split
        ·rfl
        congr 1;funext l;congr 1;funext h'
        rw [bound_ag (x:=mx) (n:=h') (fun s q=>hs s (mem_r q))]
      | ms g off len sz' =>
        simp only [slOf,bound_ag (x:=lo) (n:=0) (fun s q=>hs s (mem_l (mem_l (mem_r q)))),bound_ag (x:=hi) (n:=len) (fun s q=>hs s (mem_l (mem_r q)))]
        split
        ·rfl
        congr 1;funext l;congr 1;funext h'
        rw [bound_ag (x:=mx) (n:=h') (fun s q=>hs s (mem_r q))]
      | _=>rfl
     simp only [Obs,this]
     cases slOf sz f' lo hi mx p <;> rfl
 | sls y lo hi =>
   simp only [aop,evV_ag (x:=y) (fun s q=>hs s (mem_l (mem_l q)))]
   cases evV f'.env y with
   | none=>rfl
   | some p =>
     have:slsOf f lo hi p=slsOf f' lo hi p:=by
      unfold slsOf
      split
      ·rename_i s
       rw [bound_ag (x:=lo) (n:=0) (fun s q=>hs s (mem_l (mem_r q))),bound_ag (x:=hi) (n:=s.size) (fun s q=>hs s (mem_r q))]
      rfl
     simp only [Obs,this]
     cases slsOf f' lo hi p <;> rfl
 | dfr g as =>
   have hg:=h.g rfl
   simp only [aop,evV_ag (x:=g) (fun s q=>hs s (mem_l q)),evVs_ag (l:=as) (fun s q=>hs s (mem_r q))]
   cases evV f'.env g with
   | none=>rfl
   | some p =>
     simp only [Obs]
     cases evVs f'.env as with
     | none=>rfl
     | some l =>
       simp only [Obs]
       cases p with
       | fn k a b=>simp only [dfrOf,Obs,Option.map_some,Oie,Pie,true_and];exact Fr.ext' rfl rfl ⟨hg.nt,hg.lv,by simp only [hg.df];rfl,hg.sg⟩
       | _=>rfl
def AIns.rs (i:AIns):List Nat:=(match i.g with | some (s,_)=>[s] | none=>[]) ++ i.op.rs
structure AgI (i:AIns) (f f':Fr):Prop where
 env:∀ s,s ∈ i.rs → f.env s=f'.env s
 loc:i.op.rl=true → f.loc=f'.loc
 g:i.op.rg=true → SameG f f'
def putE (d:Option Nat) (e e':Nat → Option TV):Nat → Option TV :=
 match d with
 | some k=>upd e k (e' k)
 | none=>e
def mixI (i:AIns) (f g:Fr):Fr:={ mix i.op.wl i.op.wg f g with env:=putE i.d f.env g.env }
theorem mixI_put (i:AIns) (f g:Fr) (v:Option TV):mixI i f (putD g i.d v)=putD (mix i.op.wl i.op.wg f g) i.d v:=by
 cases i with
 | mk d gg op =>
   cases d with
   | none=>rfl
   | some k =>
     refine Fr.ext' ?_ J ⟨J,J,J,J⟩
     funext j
     simp only [mixI,putE,putD,mix,upd]
     split <;> simp_all
theorem wl_rl {x:AOp} (h:x.wl=true):x.rl=true:=by cases x <;> simp_all [AOp.wl,AOp.rl]
theorem wg_rg {x:AOp} (h:x.wg=true):x.rg=true:=by
 cases x with
 | alloc lc _=>cases lc <;> simp_all [AOp.wg,AOp.rg]
 | box lc _=>cases lc <;> simp_all [AOp.wg,AOp.rg]
 | wop k _=>cases k <;> simp_all [AOp.wg,AOp.rg,WOp.wg,WOp.rg]
 | _=>simp_all [AOp.wg,AOp.rg]
theorem ins_ag {call:Caller} {i:AIns} {f f':Fr} (hb:i.op.bar=false) (h:AgI i f f'):ins call i f=(ins call i f').map (mixI i f):=by
 have ha:Ag i.op f f':=⟨fun s m=>h.env s (mem_r m),h.loc,h.g⟩
 have hrun:run1 call i f=(run1 call i f').map (mixI i f):=by
  unfold run1
  rw [aop_ag hb ha]
  cases aop call i.d i.op f' with
  | none=>rfl
  | some r =>
    simp only [Option.map_some,Obs,Oie]
    exact (mixI_put i f r.2 r.1).symm
 unfold ins
 cases hg:i.g with
 | none=>exact hrun
 | some p =>
   obtain ⟨s,want⟩:=p
   simp only
   rw [h.env s (by unfold AIns.rs;rw [hg];simp)]
   cases f'.env s with
   | none=>rfl
   | some v =>
     simp only [Obs]
     cases guardOf v with
     | none=>rfl
     | some b =>
       simp only [Obs]
       split
       ·exact hrun
       simp only [Option.map_some,Oie]
       rw [mixI_put]
       have hmm:mix i.op.wl i.op.wg f f'=f:=by
        refine Fr.ext' J ?_ ⟨?_,?_,?_,?_⟩
        ·simp only [mix];split
         ·rename_i e;exact (h.loc (wl_rl e)).symm
         rfl
        all_goals
         simp only [mix]
         split
         ·rename_i e;have:=h.g (wg_rg e);first | exact this.nt.symm | exact this.lv.symm | exact this.df.symm | exact this.sg.symm
         rfl
       rw [hmm]
def indep (i j:AIns):Bool :=
 !i.op.bar && !j.op.bar &&
 (match i.d with
   | some d=>!j.rs.contains d
   | none=>true) &&
 (match j.d with
   | some d=>!i.rs.contains d
   | none=>true) &&
 (match i.d,j.d with
   | some d,some e=>d != e
   | _,_=>true) &&
 !(i.op.wl && j.op.rl) && !(j.op.wl && i.op.rl) && !(i.op.wg && j.op.rg) && !(j.op.wg && i.op.rg)
theorem ag_of {call:Caller} {i j:AIns} {f g:Fr} (hb:i.op.bar=false) (hi:ins call i f=some g) (h1:∀ d,i.d=some d → d ∉ j.rs) (h2:¬ (i.op.wl=true ∧ j.op.rl=true)) (h3:¬ (i.op.wg=true ∧ j.op.rg=true)) :
 AgI j g f:=by
 have hself:=ins_ag (call:=call) (f:=f) (f':=f) hb ⟨fun _ _=>rfl,fun _=>rfl,fun _=>⟨rfl,rfl,rfl,rfl⟩⟩
 rw [hi] at hself
 simp only [Option.map_some,Oie] at hself
 refine ⟨?_,?_,?_⟩
 ·intro s hs
  rw [hself]
  simp only [mixI,putE]
  cases hd:i.d with
  | none=>rfl
  | some d =>
    simp only [upd]
    rw [if_neg (fun e=>h1 d hd (by rw [← e];exact hs))]
 ·intro hl
  rw [hself]
  simp only [mixI,mix]
  rw [if_neg (fun e=>h2 ⟨e,hl⟩)]
 intro hl
 have e:¬ i.op.wg=true:=fun e=>h3 ⟨e,hl⟩
 rw [hself]
 refine ⟨?_,?_,?_,?_⟩ <;> (simp only [mixI,mix];rw [if_neg e])
theorem comm {call:Caller} {i j:AIns} (h:indep i j=true) (f:Fr):(ins call i f).bind (ins call j)=(ins call j f).bind (ins call i):=by
 simp only [indep,Bae,Bool.not_eq_true',Bool.and_eq_false_iff] at h
 obtain ⟨⟨⟨⟨⟨⟨⟨⟨bi,bj⟩,d1⟩,d2⟩,d3⟩,l1⟩,l2⟩,g1⟩,g2⟩:=h
 have hd1:∀ d,i.d=some d → d ∉ j.rs:=fun d e=>by rw [e] at d1;simpa using d1
 have hd2:∀ d,j.d=some d → d ∉ i.rs:=fun d e=>by rw [e] at d2;simpa using d2
 have nn:∀ {a b:Bool},(a=false ∨ b=false) → ¬ (a=true ∧ b=true):=fun h=>by rcases h with h | h <;> simp [h]
 cases hi:ins call i f with
 | none =>
   cases hj:ins call j f with
   | none=>rfl
   | some q =>
     have:=ins_ag (call:=call) bi (ag_of bj hj hd2 (nn l2) (nn g2))
     rw [hi] at this
     simp only [Option.bind_none,Obs,this,Option.map_none]
 | some p =>
   have hj1:=ins_ag (call:=call) bj (ag_of bi hi hd1 (nn l1) (nn g1))
   cases hj:ins call j f with
   | none =>
     rw [hj] at hj1
     simp only [Option.bind_none,Obs,hj1,Option.map_none]
   | some q =>
     have hi1:=ins_ag (call:=call) bi (ag_of bj hj hd2 (nn l2) (nn g2))
     rw [hj] at hj1
     rw [hi] at hi1
     simp only [Obs,hj1,hi1,Option.map_some,Oie]
     have sp:=ins_ag (call:=call) (f:=f) (f':=f) bi ⟨fun _ _=>rfl,fun _=>rfl,fun _=>⟨rfl,rfl,rfl,rfl⟩⟩
     have sq:=ins_ag (call:=call) (f:=f) (f':=f) bj ⟨fun _ _=>rfl,fun _=>rfl,fun _=>⟨rfl,rfl,rfl,rfl⟩⟩
     rw [hi] at sp
     rw [hj] at sq
     simp only [Option.map_some,Oie] at sp sq
     refine Fr.ext' ?_ ?_ ⟨?_,?_,?_,?_⟩
     ·funext s
      have e1:p.env s=(putE i.d f.env p.env) s:=congrFun (congrArg Fr.env sp) s
      have e2:q.env s=(putE j.d f.env q.env) s:=congrFun (congrArg Fr.env sq) s
      simp only [mixI,putE] at e1 e2 ⊢
      cases hid:i.d with
      | none =>
        rw [hid] at e1
        cases hjd:j.d with
        | none=>rw [hjd] at e2;simp only at e1 e2 ⊢;rw [e1,e2]
        | some dj =>
          rw [hjd] at e2
          simp only [upd] at e1 e2 ⊢
          split
          ·rename_i hh;rw [hh]
          rename_i hne;rw [if_neg hne] at e2;rw [e1,e2]
      | some di =>
        rw [hid] at e1 d3
        cases hjd:j.d with
        | none =>
          rw [hjd] at e2
          simp only [upd] at e1 e2 ⊢
          split
          ·rename_i hh;subst hh;rfl
          rename_i hne;rw [if_neg hne] at e1;rw [e1,e2]
        | some dj =>
          rw [hjd] at e2 d3
          have hne':di ≠ dj:=by simpa using d3
          simp only [upd] at e1 e2 ⊢
          by_cases h1:s=di
          ·subst h1;rw [if_neg hne',if_pos rfl]
          by_cases h2:s=dj
          ·subst h2;rw [if_pos rfl,if_neg h1]
          rw [if_neg h2,if_neg h1];rw [if_neg h1] at e1;rw [if_neg h2] at e2;rw [e1,e2]
     ·have e1:=congrArg Fr.loc sp
      have e2:=congrArg Fr.loc sq
      simp only [mixI,mix] at e1 e2 ⊢
      cases hw1:i.op.wl <;> cases hw2:j.op.wl <;> simp only [hw1,hw2,if_true,Bool.false_eq_true,if_false] at e1 e2 ⊢
      ·rw [e1,e2]
      exact absurd ⟨hw1,wl_rl hw2⟩ (nn l1)
     all_goals
      have e1:=sp
      have e2:=sq
      simp only [mixI,mix] at e1 e2 ⊢
      cases hw1:i.op.wg <;> cases hw2:j.op.wg <;> simp only [hw1,hw2,if_true,Bool.false_eq_true,if_false] at e1 e2 ⊢
      ·first
        | (have k1:=congrArg Fr.nt e1;have k2:=congrArg Fr.nt e2;simp only at k1 k2;rw [k1,k2])
        | (have k1:=congrArg Fr.lv e1;have k2:=congrArg Fr.lv e2;simp only at k1 k2;rw [k1,k2])
        | (have k1:=congrArg Fr.df e1;have k2:=congrArg Fr.df e2;simp only at k1 k2;rw [k1,k2])
        | (have k1:=congrArg Fr.sg e1;have k2:=congrArg Fr.sg e2;simp only at k1 k2;rw [k1,k2])
      exact absurd ⟨hw1,wg_rg hw2⟩ (nn g1)
end Go.Sim
namespace Go.Sim
open Go
inductive Anc (D:Nat → List Nat):Nat → Nat → Prop
 | one {j i:Nat}:i ∈ D j → Anc D j i
 | step {j d i:Nat}:d ∈ D j → Anc D d i → Anc D j i
def GoodS (D:Nat → List Nat) (S:List Nat):(Nat → Prop) → List Nat → Prop
 | _,[]=>True
 | seen,x :: l=>(∀ d,Anc D x d → d ∈ S → seen d) ∧ GoodS D S (fun y=>y=x ∨ seen y) l
theorem GoodS.weak {D:Nat → List Nat} {S S':List Nat} (hS:∀ d,d ∈ S' → d ∈ S):∀ (l:List Nat) (seen seen':Nat → Prop),(∀ d,d ∈ S' → seen d → seen' d) → GoodS D S seen l → GoodS D S' seen' l
 | [],_,_,_,_=>trivial
 | x :: l,seen,seen',h,hg=>⟨fun d hd hm=>h d hm (hg.1 d hd (hS d hm)),GoodS.weak hS l _ _ (fun d hd hx=>hx.imp id (h d hd)) hg.2⟩
theorem GoodS.drop {D:Nat → List Nat} {S:List Nat} {m:Nat} (hm:m ∉ S):∀ (l1 l2:List Nat) (seen seen':Nat → Prop),(∀ d,d ∈ S → seen d → seen' d) → GoodS D (m :: S) seen (l1 ++ m :: l2) → GoodS D S seen' (l1 ++ l2)
 | [],l2,seen,seen',h,hg=>GoodS.weak (fun d hd=>List.mem_cons_of_mem _ hd) l2 _ _ (fun d hd hx=>hx.elim (fun e=>absurd (e ▸ hd) hm) (h d hd)) hg.2
 | x :: l1,l2,seen,seen',h,hg=>⟨fun d hd hm'=>h d hm' (hg.1 d hd (List.mem_cons_of_mem _ hm')),GoodS.drop hm l1 l2 _ _ (fun d hd hx=>hx.imp id (h d hd)) hg.2⟩
theorem GoodS.noAnc {D:Nat → List Nat} {S:List Nat} {m:Nat} (hm:m ∈ S):∀ (l1 l2:List Nat) (seen:Nat → Prop),¬ seen m → m ∉ l1 → GoodS D S seen (l1 ++ l2) → ∀ x ∈ l1,¬ Anc D x m
 | [],_,_,_,_,_,x,hx=>by cases hx
 | y :: l1,l2,seen,hs,hn,hg,x,hx=>by
   cases hx with
   | head=>exact fun ha=>hs (hg.1 m ha hm)
   | tail _ hx =>
     refine GoodS.noAnc hm l1 l2 _ ?_ (fun h=>hn (List.mem_cons_of_mem _ h)) hg.2 x hx
     rintro (e | e)
     ·exact hn (e ▸ List.mem_cons_self ..)
     exact hs e
structure Fresh (d:Nat) (fr:Fr):Prop where
 loc:fr.loc d=none
 env:∀ s o,fr.env s ≠ some (.loc d o)
theorem fresh_of {d:Nat} (fr:Fr):∀ {ds:List Nat},d ∈ ds → Fresh d (fr.fresh ds)
 | e :: ds,h=>by
   by_cases hd:d=e
   ·subst hd
    refine ⟨by simp [Fr.fresh,upd],fun s o hs=>?_⟩
    simp only [Fr.fresh,dropL] at hs
    split at hs
    ·split at hs
     ·cases hs
     rename_i j o' e hj;cases hs;exact hj rfl
    rename_i hx;exact hx _ _ hs
   have ih:=fresh_of fr (ds:=ds) (by cases h with | head=>exact absurd rfl hd | tail _ h=>exact h)
   refine ⟨by simp only [Fr.fresh,upd,if_neg hd];exact ih.loc,fun s o hs=>?_⟩
   refine ih.env s o ?_
   simp only [Fr.fresh,dropL] at hs
   split at hs
   ·split at hs
    ·cases hs
    rename_i j o' e hj;cases hs;exact e
   exact hs
theorem dropL_id {d:Nat} {fr:Fr} (h:Fresh d fr):dropL d fr.env=fr.env:=by
 funext s
 simp only [dropL]
 split
 ·rename_i j o e
  rw [if_neg (fun hj=>h.env s o (by rw [e,hj])),e]
 rfl
def addL (d:Nat) (z:List AV) (fr:Fr):Fr:={ fr with env:=upd fr.env d (some (.loc d 0)),loc:=upd fr.loc d (some z) }
def alOf (i:AIns):Option Nat :=
 match i.g,i.op with
 | none,.alloc true _=>i.d
 | _,_=>none
theorem ins_al {call:Caller} {i:AIns} {d:Nat} (h:alOf i=some d):∃ z,∀ fr,Fresh d fr → ins call i fr=some (addL d z fr):=by
 obtain ⟨id,g,op⟩:=i
 unfold alOf at h
 split at h
 ·rename_i z hg hop
  simp only at h hg hop
  subst h hg hop
  refine ⟨z,fun fr hf=>?_⟩
  simp only [ins,run1,aop,Obs,putD,dropL_id hf]
  rfl
 cases h
theorem addL_env {d s:Nat} {z:List AV} {fr:Fr} (h:s ≠ d):(addL d z fr).env s=fr.env s:=by simp [addL,upd,h]
theorem aop_addL {call:Caller} {jd:Option Nat} {op:AOp} {d:Nat} {z:List AV} {fr:Fr} (hf:Fresh d fr) (hr:d ∉ op.rs) (hd:jd ≠ some d) :
 aop call jd op (addL d z fr)=(aop call jd op fr).map fun r=>(r.1,addL d z r.2):=by
 have hs:∀ s,s ∈ op.rs → (addL d z fr).env s=fr.env s:=fun s m=>addL_env (fun e=>hr (e ▸ m))
 by_cases hb:op.bar=true
 ·have drop_upd:∀ j,j ≠ d → dropL j (upd fr.env d (some (.loc d 0)))=upd (dropL j fr.env) d (some (.loc d 0)):=by
   intro j hj
   funext s
   simp only [dropL,upd]
   by_cases hsd:s=d
   ·simp [hsd,Ne.symm hj]
   simp [hsd]
  have uu:∀ (j:Nat) (x:List AV),j ≠ d → upd (upd fr.loc d (some z)) j (some x)=upd (upd fr.loc j (some x)) d (some z):=by
   intro j x hj
   funext s
   simp only [upd]
   by_cases hsd:s=d
   ·subst hsd;simp [Ne.symm hj]
   simp [hsd]
  cases op with
  | alloc lc y =>
    cases lc with
    | false=>cases hb
    | true =>
      cases jd with
      | none=>rfl
      | some j =>
        have hj:j ≠ d:=fun e=>hd (by rw [e])
        simp only [aop,Obs,Option.map_some,addL,drop_upd j hj,uu j y hj]
  | box lc x =>
    cases lc with
    | false=>cases hb
    | true =>
      cases jd with
      | none=>rfl
      | some j =>
        have hj:j ≠ d:=fun e=>hd (by rw [e])
        simp only [aop,Obs,evV_ag (x:=x) hs]
        cases evV fr.env x with
        | none=>rfl
        | some v=>simp only [Obs,Option.map_some,addL,drop_upd j hj,uu j v.cells hj]
  | _=>cases hb
 have hb':op.bar=false:=by simpa using hb
 have nl:∀ i o,∀ x:AO,ev fr.env x=some (.loc i o) → i ≠ d:=by
  intro i o x hx e
  subst e
  cases x with
  | t n=>exact hf.env n o hx
  | c a=>simp [ev] at hx
  | f a=>simp [ev] at hx
 by_cases hl:op.rl=true
 ·cases op with
  | ld hh n x =>
    simp only [aop,ev_ag (x:=x) hs]
    cases hx:ev fr.env x with
    | none=>rfl
    | some p =>
      have e:ldAt (addL d z fr) hh n p=ldAt fr hh n p:=by
       cases p with
       | loc i o=>simp only [ldAt,addL,upd_ne _ _ (nl i o x hx)]
       | tup vs=>rfl
       | und=>rfl
       | val v=>cases v <;> rfl
      simp only [Obs,e]
      cases ldAt fr hh n p <;> rfl
  | st hh n x y =>
    simp only [aop,ev_ag (x:=x) (fun s m=>hs s (mem_l m)),evV_ag (x:=y) (fun s m=>hs s (mem_r m))]
    cases hx:ev fr.env x with
    | none=>rfl
    | some p =>
      simp only [Obs]
      cases evV fr.env y with
      | none=>rfl
      | some v =>
        simp only [Obs]
        split
        ·have e:stAt (addL d z fr) hh v p=(stAt fr hh v p).map (addL d z):=by
          cases p with
          | loc i o =>
            have hi:=nl i o x hx
            simp only [stAt,addL,upd_ne _ _ hi]
            cases fr.loc i with
            | none=>rfl
            | some cs =>
              simp only [Obs]
              split
              ·simp only [Option.map_some,Oie]
               refine Fr.ext' J ?_ ⟨J,J,J,J⟩
               funext s
               show _=upd (upd fr.loc i (some (wr cs o v.cells))) d (some z) s
               simp only [upd]
               by_cases hsd:s=d
               ·subst hsd;simp [Ne.symm hi]
               simp [hsd]
              rfl
          | tup vs=>rfl
          | und=>rfl
          | val w =>
            cases w with
            | ptr i o =>
              simp only [stAt]
              split
              ·have e1:(stv v (addL d z fr)).1=(stv v fr).1 ∧ (stv v (addL d z fr)).2=addL d z (stv v fr).2:=by
                cases v with
                | slice own sz xs =>
                  cases own with
                  | tip t =>
                    have e3:(addL d z fr).lv t=fr.lv t:=rfl
                    simp only [stv,e3]
                    cases fr.lv t <;> exact ⟨rfl,rfl⟩
                  | _=>exact ⟨rfl,rfl⟩
                | _=>exact ⟨rfl,rfl⟩
               have e2:(addL d z fr).sg.ob i=fr.sg.ob i:=rfl
               rw [e2]
               cases fr.sg.ob i with
               | none=>rfl
               | some ob =>
                 cases ob with
                 | map kk m=>rfl
                 | row cs =>
                   simp only [e1.1,e1.2]
                   split <;> rfl
              rfl
            | mp g o =>
              simp only [stAt]
              split
              ·have e1:(stv v (addL d z fr)).1=(stv v fr).1 ∧ (stv v (addL d z fr)).2=addL d z (stv v fr).2:=by
                cases v with
                | slice own sz xs =>
                  cases own with
                  | tip t =>
                    have e3:(addL d z fr).lv t=fr.lv t:=rfl
                    simp only [stv,e3]
                    cases fr.lv t <;> exact ⟨rfl,rfl⟩
                  | _=>exact ⟨rfl,rfl⟩
                | _=>exact ⟨rfl,rfl⟩
               have e2:(addL d z fr).sg.mu g=fr.sg.mu g:=rfl
               rw [e2]
               cases fr.sg.mu g with
               | none=>rfl
               | some cs =>
                 simp only [Obs,e1.1,e1.2]
                 split <;> rfl
              rfl
            | _=>rfl
         rw [e]
         cases stAt fr hh v p <;> rfl
        rfl
  | _=>cases hl
 have hl':op.rl=false:=by simpa using hl
 have hwl:op.wl=false:=by cases hw:op.wl with | false=>rfl | true=>exact absurd (wl_rl hw) hl
 have self:=aop_ag (call:=call) (d:=jd) (x:=op) (f:=fr) (f':=fr) hb' ⟨fun _ _=>rfl,fun _=>rfl,fun _=>⟨rfl,rfl,rfl,rfl⟩⟩
 have cr:=aop_ag (call:=call) (d:=jd) (x:=op) (f:=addL d z fr) (f':=fr) hb' ⟨hs,fun e=>absurd e hl,fun _=>⟨rfl,rfl,rfl,rfl⟩⟩
 rw [cr]
 cases hop:aop call jd op fr with
 | none=>rfl
 | some r =>
   rw [hop] at self
   simp only [Option.map_some,Oie] at self
   have e2:r.2=mix op.wl op.wg fr r.2:=congrArg Prod.snd self
   simp only [Option.map_some,Oie,Pie,true_and]
   have he:r.2.env=fr.env:=by have:=congrArg Fr.env e2;simpa [mix] using this
   have hlo:r.2.loc=fr.loc:=by have:=congrArg Fr.loc e2;simpa [mix,hwl] using this
   refine Fr.ext' ?_ ?_ ⟨?_,?_,?_,?_⟩
   ·show (addL d z fr).env=(addL d z r.2).env
    simp only [addL,he]
   ·show (if op.wl=true then r.2.loc else (addL d z fr).loc)=_
    rw [hwl]
    simp only [addL,hlo]
    rfl
   all_goals
    simp only [mix,addL]
    split
    ·rfl
    rename_i hw
    first
     | (have:=congrArg Fr.nt e2;simp only [mix,if_neg hw] at this;exact this.symm)
     | (have:=congrArg Fr.lv e2;simp only [mix,if_neg hw] at this;exact this.symm)
     | (have:=congrArg Fr.df e2;simp only [mix,if_neg hw] at this;exact this.symm)
     | (have:=congrArg Fr.sg e2;simp only [mix,if_neg hw] at this;exact this.symm)
theorem fa_loc {off:Nat} {p:TV} {i o:Nat} (h:faOf off p=some (.loc i o)):∃ o',p=.loc i o':=by
 cases p with
 | loc j k=>simp only [faOf,Oie,TV.loc.injEq] at h;exact ⟨k,by rw [h.1]⟩
 | tup vs=>simp [faOf] at h
 | und=>simp [faOf] at h
 | val v=>cases v <;> simp [faOf] at h
theorem nck_loc {p:TV} {i o:Nat} (h:nckOf p=some (.loc i o)):∃ o',p=.loc i o':=by
 cases p with
 | loc j k=>simp only [nckOf,Oie,TV.loc.injEq] at h;exact ⟨k,by rw [h.1]⟩
 | tup vs=>simp [nckOf] at h
 | und=>simp [nckOf] at h
 | val v=>cases v <;> simp [nckOf] at h
theorem toTV_loc {l:List AV} {i o:Nat}:toTV l ≠ .loc i o:=by
 cases l with
 | nil=>simp [toTV]
 | cons x r=>cases r <;> simp [toTV]
theorem aop_fresh {call:Caller} {jd:Option Nat} {op:AOp} {d:Nat} {fr:Fr} {r:Option TV × Fr} (hf:Fresh d fr) (hd:jd ≠ some d) (h:aop call jd op fr=some r):Fresh d r.2 ∧ ∀ o,r.1 ≠ some (.loc d o):=by
 have nl:∀ o,∀ x:AO,ev fr.env x ≠ some (.loc d o):=by
  intro o x hx
  cases x with
  | t n=>exact hf.env n o hx
  | c a=>simp [ev] at hx
  | f a=>simp [ev] at hx
 by_cases hb:op.bar=true
 ·have hdrop:∀ (j:Nat) (x:List AV),j ≠ d → Fresh d { fr with env:=dropL j fr.env,loc:=upd fr.loc j (some x) }:=by
   intro j x hj
   refine ⟨by simp only [upd,if_neg (Ne.symm hj)];exact hf.loc,fun s o hs=>hf.env s o ?_⟩
   simp only [dropL] at hs
   split at hs
   ·split at hs
    ·cases hs
    rename_i e _;rw [e];exact hs
   exact hs
  cases op with
  | alloc lc y =>
    cases lc with
    | false=>cases hb
    | true =>
      cases jd with
      | none=>simp [aop] at h
      | some j =>
        have hj:j ≠ d:=fun e=>hd (by rw [e])
        simp only [aop,Obs,Oie] at h
        subst h
        exact ⟨hdrop j y hj,fun o e=>hj (by simp at e;exact e.1)⟩
  | box lc x =>
    cases lc with
    | false=>cases hb
    | true =>
      cases jd with
      | none=>simp [aop] at h
      | some j =>
        have hj:j ≠ d:=fun e=>hd (by rw [e])
        simp only [aop,Obs,Obe,Oie] at h
        obtain ⟨v,_,rfl⟩:=h
        exact ⟨hdrop j v.cells hj,fun o e=>hj (by simp at e;exact e.1)⟩
  | _=>cases hb
 have hb':op.bar=false:=by simpa using hb
 have self:=aop_ag (call:=call) (d:=jd) (x:=op) (f:=fr) (f':=fr) hb' ⟨fun _ _=>rfl,fun _=>rfl,fun _=>⟨rfl,rfl,rfl,rfl⟩⟩
 rw [h] at self
 simp only [Option.map_some,Oie] at self
 have e2:r.2=mix op.wl op.wg fr r.2:=congrArg Prod.snd self
 have he:r.2.env=fr.env:=by have:=congrArg Fr.env e2;simpa [mix] using this
 have henv:∀ s o,r.2.env s ≠ some (.loc d o):=fun s o=>by rw [he];exact hf.env s o
 have hlo:op.wl=false → r.2.loc d=none:=by
  intro hw
  have:=congrArg Fr.loc e2
  simp only [mix,hw] at this
  rw [this]
  exact hf.loc
 cases op with
 | st hh n x y =>
   simp only [aop,Obe] at h
   obtain ⟨p,hp,v,hv,h⟩:=h
   split at h
   ·simp only [Obe,Oie] at h
    obtain ⟨fr',hst,rfl⟩:=h
    refine ⟨⟨?_,henv⟩,fun o e=>by cases e⟩
    cases p with
    | loc i o =>
      have hi:d ≠ i:=fun e=>nl o x (by rw [hp,e])
      simp only [stAt,Obe] at hst
      obtain ⟨cs,_,hst⟩:=hst
      split at hst
      ·simp only [Oie] at hst
       subst hst
       simp only [upd,if_neg hi]
       exact hf.loc
      cases hst
    | tup vs=>simp [stAt] at hst
    | und=>simp [stAt] at hst
    | val w =>
      cases w with
      | ptr i o =>
        simp only [stAt] at hst
        split at hst
        ·split at hst
         ·split at hst
          ·simp only [Oie] at hst
           subst hst
           have hl:=(stv_ag (v:=v) (f:=fr) (f':=fr) ⟨rfl,rfl,rfl,rfl⟩).2.2.2
           show (stv v fr).2.loc d=none
           rw [hl]
           exact hf.loc
          cases hst
         cases hst
        cases hst
      | mp g o =>
        simp only [stAt] at hst
        split at hst
        ·simp only [Obe] at hst
         obtain ⟨cs,_,hst⟩:=hst
         split at hst
         ·simp only [Oie] at hst
          subst hst
          have hl:=(stv_ag (v:=v) (f:=fr) (f':=fr) ⟨rfl,rfl,rfl,rfl⟩).2.2.2
          show (stv v fr).2.loc d=none
          rw [hl]
          exact hf.loc
         cases hst
        cases hst
      | _=>simp [stAt] at hst
   cases h
 | mv x =>
   simp only [aop,Obe,Oie] at h
   obtain ⟨v,hv,rfl⟩:=h
   exact ⟨hf,fun o e=>nl o x (by rw [hv];exact e)⟩
 | pick c p q =>
   simp only [aop,Obe,Oie] at h
   obtain ⟨cv,_,t,_,v,hv,rfl⟩:=h
   refine ⟨hf,fun o e=>?_⟩
   cases t with
   | true=>exact nl o p (by simp only [if_true] at hv;rw [hv];exact e)
   | false=>exact nl o q (by simp only [Bool.false_eq_true,if_false] at hv;rw [hv];exact e)
 | nck x =>
   simp only [aop,Obe,Oie] at h
   obtain ⟨v,hv,u,hu,rfl⟩:=h
   refine ⟨hf,fun o e=>?_⟩
   simp only [Oie] at e
   subst e
   obtain ⟨o',rfl⟩:=nck_loc hu
   exact nl o' x hv
 | fa off x =>
   simp only [aop,Obe,Oie] at h
   obtain ⟨v,hv,u,hu,rfl⟩:=h
   refine ⟨hf,fun o e=>?_⟩
   simp only [Oie] at e
   subst e
   obtain ⟨o',rfl⟩:=fa_loc hu
   exact nl o' x hv
 | iaa len sz x i =>
   simp only [aop,Obe] at h
   obtain ⟨v,hv,iv,_,n,_,h⟩:=h
   split at h
   ·simp only [Obe,Oie] at h
    obtain ⟨u,hu,rfl⟩:=h
    refine ⟨hf,fun o e=>?_⟩
    simp only [Oie] at e
    subst e
    obtain ⟨o',rfl⟩:=fa_loc hu
    exact nl o' x hv
   cases h
 | app sz b x y =>
   refine ⟨⟨hlo J,henv⟩,fun o e=>?_⟩
   simp only [aop,Obe] at h
   obtain ⟨_,_,_,_,_,_,c,_,h⟩:=h
   cases hc:c.2 with
   | nil=>rw [hc] at h;simp only [appOf,Oie] at h;subst h;cases e
   | cons q qs =>
     rw [hc] at h
     simp only [appOf] at h
     split at h
     ·simp only [Obe,Oie] at h
      obtain ⟨_,_,rfl⟩:=h
      cases e
     cases h
 | lk kk zz ok m k =>
   refine ⟨⟨hlo J,henv⟩,fun o e=>?_⟩
   simp only [aop,Obe,Oie] at h
   obtain ⟨_,_,_,_,_,_,_,_,rfl⟩:=h
   simp only at e
   split at e <;> cases e
 | call f as =>
   refine ⟨⟨hlo J,henv⟩,fun o e=>?_⟩
   simp only [aop,Obe,Oie] at h
   obtain ⟨_,_,_,_,_,_,rfl⟩:=h
   simp only [Oie] at e
   exact toTV_loc e
 | sts m n x y =>
   refine ⟨⟨hlo J,henv⟩,fun o e=>?_⟩
   simp only [aop,Obe,Oie] at h
   obtain ⟨_,_,_,_,_,_,rfl⟩:=h
   cases e
 | tas t z ok x =>
   refine ⟨⟨hlo J,henv⟩,fun o e=>?_⟩
   simp only [aop,Obe,Oie] at h
   obtain ⟨_,_,r,h1,rfl⟩:=h
   simp only [Oie] at e
   subst e
   unfold tasOf at h1
   split at h1
   ·split at h1
    ·split at h1 <;> cases h1
    split at h1 <;> cases h1
   ·split at h1 <;> cases h1
   cases h1
 | inv tb x as =>
   refine ⟨⟨hlo J,henv⟩,fun o e=>?_⟩
   simp only [aop,Obe,Oie] at h
   obtain ⟨_,_,_,_,_,_,rfl⟩:=h
   simp only [Oie] at e
   exact toTV_loc e
 | callq ks f as =>
   refine ⟨⟨hlo J,henv⟩,fun o e=>?_⟩
   simp only [aop,Obe] at h
   obtain ⟨_,_,_,_,_,_,h⟩:=h
   obtain ⟨_,rfl⟩:=qres_some h
   simp only [Oie] at e
   exact toTV_loc e
 | alloc lc y =>
   cases lc with
   | true=>cases hb'
   | false =>
     refine ⟨⟨hlo J,henv⟩,fun o e=>?_⟩
     simp only [aop,Oie] at h
     subst h
     cases e
 | box lc y =>
   cases lc with
   | true=>cases hb'
   | false =>
     refine ⟨⟨hlo J,henv⟩,fun o e=>?_⟩
     simp only [aop,Obe,Oie] at h
     obtain ⟨_,_,rfl⟩:=h
     cases e
 | bsl sz ps =>
   refine ⟨⟨hlo J,henv⟩,fun o e=>?_⟩
   simp only [aop,Obe] at h
   obtain ⟨_,_,h⟩:=h
   split at h
   ·simp only [Oie] at h;subst h;cases e
   cases h
 | peq ng x y =>
   refine ⟨⟨hlo J,henv⟩,fun o e=>?_⟩
   simp only [aop,Obe] at h
   obtain ⟨_,_,_,_,_,_,_,_,h⟩:=h
   split at h
   ·simp only [Oie] at h;subst h;cases e
   cases h
 | mkm kk =>
   refine ⟨⟨hlo J,henv⟩,fun o e=>?_⟩
   simp only [aop,Oie] at h
   subst h
   cases e
 | _ =>
   refine ⟨⟨hlo J,henv⟩,fun o e=>?_⟩
   simp only [aop,Obe,Oie] at h
   obtain ⟨_,_,h⟩:=h
   first
    | (subst h;cases e;done)
    | (obtain ⟨_,_,h⟩:=h;first
     | (subst h;cases e;done)
     | (obtain ⟨_,_,h⟩:=h;first
      | (subst h;cases e;done)
      | (obtain ⟨_,_,h⟩:=h;first
       | (subst h;cases e;done)
       | (obtain ⟨_,_,h⟩:=h;first
        | (subst h;cases e;done)
        | (obtain ⟨_,_,h⟩:=h;subst h;cases e)))))
theorem ins_fresh {call:Caller} {j:AIns} {d:Nat} {fr fr':Fr} (hf:Fresh d fr) (hd:j.d ≠ some d) (h:ins call j fr=some fr'):Fresh d fr':=by
 have put:∀ (g:Fr) (v:Option TV),Fresh d g → (∀ o,v ≠ some (.loc d o)) → Fresh d (putD g j.d v):=by
  intro g v hg hv
  cases hj:j.d with
  | none=>exact hg
  | some k =>
    refine ⟨hg.loc,fun s o e=>?_⟩
    simp only [putD,upd] at e
    split at e
    ·exact hv o e
    exact hg.env s o e
 have hr:∀ fr',run1 call j fr=some fr' → Fresh d fr':=by
  intro fr' h
  simp only [run1,Obe,Oie] at h
  obtain ⟨r,h1,rfl⟩:=h
  obtain ⟨h2,h3⟩:=aop_fresh hf hd h1
  exact put _ _ h2 h3
 unfold ins at h
 split at h
 ·exact hr _ h
 simp only [Obe] at h
 obtain ⟨_,_,b,_,h⟩:=h
 split at h
 ·exact hr _ h
 simp only [Oie] at h
 subst h
 exact put _ _ hf fun o e=>by simp at e
theorem ins_addL {call:Caller} {j:AIns} {d:Nat} {z:List AV} {fr:Fr} (hf:Fresh d fr) (hr:d ∉ j.rs) (hd:j.d ≠ some d):ins call j (addL d z fr)=(ins call j fr).map (addL d z):=by
 have put:∀ (g:Fr) (v:Option TV),putD (addL d z g) j.d v=addL d z (putD g j.d v):=by
  intro g v
  cases hj:j.d with
  | none=>rfl
  | some k =>
    have hk:k ≠ d:=fun e=>hd (by rw [hj,e])
    refine Fr.ext' ?_ J ⟨J,J,J,J⟩
    funext s
    simp only [putD,addL,upd]
    by_cases hs:s=d
    ·subst hs;simp [Ne.symm hk]
    simp [hs]
 have hrun:run1 call j (addL d z fr)=(run1 call j fr).map (addL d z):=by
  unfold run1
  rw [aop_addL hf (fun m=>hr (mem_r m)) hd]
  cases aop call j.d j.op fr with
  | none=>rfl
  | some r=>simp only [Option.map_some,Obs,put]
 unfold ins
 cases hg:j.g with
 | none=>exact hrun
 | some q =>
   obtain ⟨s,want⟩:=q
   have hs:s ≠ d:=fun e=>hr (by unfold AIns.rs;rw [hg,e];simp)
   have e:(addL d z fr).env s=fr.env s:=addL_env hs
   simp only [e]
   cases fr.env s with
   | none=>rfl
   | some v =>
     simp only [Obs]
     cases guardOf v with
     | none=>rfl
     | some b =>
       simp only [Obs]
       split
       ·exact hrun
       simp only [Option.map_some,put]
def alIndep (fs:List Nat) (i j:AIns):Bool :=
 match alOf i with
 | some d=>fs.contains d && !j.rs.contains d && (match j.d with
   | some e=>d != e
   | none=>true)
 | none=>false
def FreshAll (fs:List Nat) (X:Nat → AIns) (S:List Nat) (f:Fr):Prop:=∀ k ∈ S,∀ d,alOf (X k)=some d → d ∈ fs → Fresh d f
theorem comm_al {call:Caller} {fs:List Nat} {i j:AIns} (h:alIndep fs i j=true) {f:Fr} (hf:∀ d,alOf i=some d → d ∈ fs → Fresh d f):(ins call i f).bind (ins call j)=(ins call j f).bind (ins call i):=by
 unfold alIndep at h
 split at h
 ·rename_i d hd
  simp only [Bae,Bool.not_eq_true',List.contains_eq_mem,Dte,decide_eq_false_iff_not] at h
  have hF:=hf d hd h.1.1
  have hne:j.d ≠ some d:=by
   intro e
   have:=h.2
   rw [e] at this
   simp at this
  obtain ⟨z,hz⟩:=ins_al (call:=call) hd
  rw [hz f hF]
  simp only [Obs]
  rw [ins_addL hF h.1.2 hne]
  cases hj:ins call j f with
  | none=>rfl
  | some g =>
    simp only [Option.map_some,Obs]
    exact (hz g (ins_fresh hF hne hj)).symm
 cases h
def dIndep (i j:AIns):Bool :=
 (match i.d with
   | some d=>!j.rs.contains d
   | none=>true) &&
 (match j.d with
   | some d=>!i.rs.contains d
   | none=>true) &&
 (match i.d,j.d with
   | some d,some e=>d != e
   | _,_=>true)
def putO (E:Nat → Option TV) (d:Option Nat) (v:Option TV):Nat → Option TV :=
 match d with
 | some i=>upd E i v
 | none=>E
def evG (E:Nat → Option TV) (g:Option (Nat × Bool)):Option Bool :=
 match g with
 | none=>some true
 | some (s,want)=>(E s).bind fun tv=>(guardOf tv).bind fun y=>some (decide (y=some want))
theorem ins_evG {call:Caller} {i:AIns} {fr:Fr}:ins call i fr=(evG fr.env i.g).bind fun b=>if b then run1 call i fr else some (putD fr i.d (some .und)):=by
 unfold ins evG
 cases i.g with
 | none=>rfl
 | some q =>
   obtain ⟨s,want⟩:=q
   simp only
   cases fr.env s with
   | none=>rfl
   | some tv =>
     simp only [Obs]
     cases guardOf tv with
     | none=>rfl
     | some y =>
       simp only [Obs]
       by_cases h:y=some want <;> simp [h]
theorem evG_ag {E E':Nat → Option TV} {g:Option (Nat × Bool)} (h:∀ s w,g=some (s,w) → E s=E' s):evG E g=evG E' g:=by
 cases g with
 | none=>rfl
 | some q=>obtain ⟨s,w⟩:=q;simp only [evG,h s w rfl]
theorem comm_rw {call:Caller} {i j:AIns} (rE:(Nat → Option TV) → Sg → Option TV) (wE:(Nat → Option TV) → Sg → Option (Option TV × Sg)) (h:dIndep i j=true)
 (hI:∀ fr:Fr,run1 call i fr=(rE fr.env fr.sg).bind fun t=>some (putD fr i.d (some t)))
 (hJ:∀ fr:Fr,run1 call j fr=(wE fr.env fr.sg).bind fun r=>some (putD { fr with sg:=r.2 } j.d r.1))
 (aI:∀ E E' s,(∀ k,k ∈ i.op.rs → E k=E' k) → rE E s=rE E' s) (aJ:∀ E E' s,(∀ k,k ∈ j.op.rs → E k=E' k) → wE E s=wE E' s)
 (hC:∀ E s r,wE E s=some r → rE E r.2=rE E s) (f:Fr):(ins call i f).bind (ins call j)=(ins call j f).bind (ins call i):=by
 obtain ⟨di,gi,oi⟩:=i
 obtain ⟨dj,gj,oj⟩:=j
 unfold dIndep at h
 simp only [Bae] at h
 obtain ⟨⟨h1,h2⟩,h3⟩:=h
 have hi:∀ d,di=some d → d ∉ AIns.rs ⟨dj,gj,oj⟩:=by
  rintro d rfl;simpa using h1
 have hj:∀ d,dj=some d → d ∉ AIns.rs ⟨di,gi,oi⟩:=by
  rintro d rfl;simpa using h2
 have hij:∀ d,di=some d → dj ≠ some d:=by
  rintro d rfl rfl;simp at h3
 clear h1 h2 h3
 have putE:∀ (fr:Fr) (d:Option Nat) (v:Option TV),putD fr d v={ fr with env:=putO fr.env d v }:=by
  intro fr d v;cases d <;> rfl
 have rsI:∀ k,k ∈ oi.rs → k ∈ AIns.rs ⟨di,gi,oi⟩:=fun k hk=>by unfold AIns.rs;simp [hk]
 have rsJ:∀ k,k ∈ oj.rs → k ∈ AIns.rs ⟨dj,gj,oj⟩:=fun k hk=>by unfold AIns.rs;simp [hk]
 have envI:∀ (E:Nat → Option TV) (t:Option TV) (s:Nat),s ∈ AIns.rs ⟨dj,gj,oj⟩ → putO E di t s=E s:=by
  intro E t s hs
  cases hd:di with
  | none=>rfl
  | some d=>exact upd_ne _ _ fun e=>hi d hd (e ▸ hs)
 have envJ:∀ (E:Nat → Option TV) (t:Option TV) (s:Nat),s ∈ AIns.rs ⟨di,gi,oi⟩ → putO E dj t s=E s:=by
  intro E t s hs
  cases hd:dj with
  | none=>rfl
  | some d=>exact upd_ne _ _ fun e=>hj d hd (e ▸ hs)
 have swap:∀ (E:Nat → Option TV) (t u:Option TV),putO (putO E di t) dj u=putO (putO E dj u) di t:=by
  intro E t u
  cases hdi:di with
  | none=>rfl
  | some d =>
    cases hdj:dj with
    | none=>rfl
    | some e =>
      have hne:e ≠ d:=fun x=>hij d hdi (by rw [hdj,x])
      funext s
      simp only [putO,upd]
      by_cases hs:s=e
      ·subst hs;simp [hne]
      simp [hs]
 have gI:∀ (E:Nat → Option TV) (t:Option TV),evG (putO E dj t) gi=evG E gi:=fun E t=>evG_ag fun s w hg=>envJ E t s (by unfold AIns.rs;rw [hg];simp)
 have gJ:∀ (E:Nat → Option TV) (t:Option TV),evG (putO E di t) gj=evG E gj:=fun E t=>evG_ag fun s w hg=>envI E t s (by unfold AIns.rs;rw [hg];simp)
 have eI:∀ fr:Fr,ins call ⟨di,gi,oi⟩ fr=((evG fr.env gi).bind fun b=>if b then (rE fr.env fr.sg).map some else some (some .und)).map fun t=>{ fr with env:=putO fr.env di (t.map id) }:=by
  intro fr
  rw [ins_evG]
  cases evG fr.env gi with
  | none=>rfl
  | some b =>
    simp only [Obs]
    cases b with
    | false=>simp only [Bool.false_eq_true,if_false,Option.map_some,putE];rfl
    | true =>
      simp only [if_true]
      have e:=hI fr
      have e':run1 call ⟨di,gi,oi⟩ fr=_:=e
      rw [e']
      cases rE fr.env fr.sg with
      | none=>rfl
      | some t=>simp only [Obs,Option.map_some,putE];rfl
 have eJ:∀ fr:Fr,ins call ⟨dj,gj,oj⟩ fr=((evG fr.env gj).bind fun b=>if b then wE fr.env fr.sg else some (some .und,fr.sg)).map fun r=>{ fr with env:=putO fr.env dj r.1,sg:=r.2 }:=by
  intro fr
  rw [ins_evG]
  cases evG fr.env gj with
  | none=>rfl
  | some b =>
    simp only [Obs]
    cases b with
    | false=>simp only [Bool.false_eq_true,if_false,Option.map_some,putE]
    | true =>
      simp only [if_true]
      have e':run1 call ⟨dj,gj,oj⟩ fr=_:=hJ fr
      rw [e']
      cases wE fr.env fr.sg with
      | none=>rfl
      | some r=>simp only [Obs,Option.map_some,putE]
 have wD:∀ (E:Nat → Option TV) (t:Option TV) (s:Sg),wE (putO E di t) s=wE E s:=fun E t s=>aJ _ _ s fun k hk=>envI E t k (rsJ k hk)
 have rD:∀ (E:Nat → Option TV) (t:Option TV) (s:Sg),rE (putO E dj t) s=rE E s:=fun E t s=>aI _ _ s fun k hk=>envJ E t k (rsI k hk)
 simp only [eI,eJ,Option.bind_map,Function.comp_def,gI,gJ,wD,rD]
 cases hgi:evG f.env gi with
 | none =>
   simp only [Option.bind_none,Option.map_none]
   cases (evG f.env gj).bind fun b=>if b then wE f.env f.sg else some (some .und,f.sg) <;> rfl
 | some bi =>
   cases hgj:evG f.env gj with
   | none =>
     simp only [Option.bind_none,Option.map_none,Obs]
     cases (if bi then (rE f.env f.sg).map some else some (some .und)) <;> rfl
   | some bj =>
     simp only [Obs]
     cases bj with
     | false =>
       simp only [Bool.false_eq_true,if_false,Option.map_some,Obs]
       cases (if bi then (rE f.env f.sg).map some else some (some .und)) with
       | none=>rfl
       | some t=>simp only [Obs,Option.map_some,swap]
     | true =>
       simp only [if_true]
       cases hw:wE f.env f.sg with
       | none =>
         simp only [Option.map_none,Option.bind_none]
         cases (if bi then (rE f.env f.sg).map some else some (some .und)) <;> rfl
       | some r =>
         simp only [Obs,hC _ _ _ hw]
         cases (if bi then (rE f.env f.sg).map some else some (some .und)) with
         | none=>rfl
         | some t=>simp only [Obs,Option.map_some,swap]
theorem ev_ext {E E':Nat → Option TV} {a:AO} (h:∀ k,k ∈ a.rs → E k=E' k):ev E a=ev E' a:=by
 cases a with
 | t k=>exact h k (by simp [AO.rs])
 | _=>rfl
theorem evVs_ext {E E':Nat → Option TV} {s:Sg} {xs:List AO} (h:∀ k,k ∈ rsL xs → E k=E' k):evVs E xs=evVs E' xs :=
 evVs_ag (f:=⟨E,fun _=>none,0,fun _=>false,[],s⟩) (f':=⟨E',fun _=>none,0,fun _=>false,[],s⟩) h
def qIndep (i j:AIns):Bool :=
 (match i.op,j.op with
 | .ldo _ rt _ _,.callq ks _ _=>ks.contains rt
 | _,_=>false) && dIndep i j
def ldoE (E:Nat → Option TV) (s:Sg) (tk:Bool) (rt:Nat) (n:Option Nat) (a:AO):Option TV:=(E rt).bind fun q=>(ev E a).bind fun p=>(ldoAt tk s n q p).bind fun v=>some (.val v)
theorem ldo_run {call:Caller} {di:Option Nat} {gi:Option (Nat × Bool)} {tk:Bool} {rt:Nat} {n:Option Nat} {a:AO} (fr:Fr):run1 call ⟨di,gi,.ldo tk rt n a⟩ fr=(ldoE fr.env fr.sg tk rt n a).bind fun t=>some (putD fr di (some t)):=by
 simp only [run1,aop,ldoE]
 cases fr.env rt with
 | none=>rfl
 | some q =>
   simp only [Obs]
   cases ev fr.env a with
   | none=>rfl
   | some p=>simp only [Obs];cases ldoAt tk fr.sg n q p <;> rfl
theorem ldo_ext {tk:Bool} {rt:Nat} {n:Option Nat} {a:AO} (E E':Nat → Option TV) (s:Sg) (h:∀ k,k ∈ (AOp.ldo tk rt n a).rs → E k=E' k):ldoE E s tk rt n a=ldoE E' s tk rt n a:=by
 unfold ldoE
 rw [h rt (by simp [AOp.rs]),ev_ext fun k hk=>h k (by simp [AOp.rs,hk])]
open Classical in
noncomputable def callE (call:Caller) (ks:List Nat) (g:AO) (as:List AO) (E:Nat → Option TV) (s:Sg):Option (Option TV × Sg) :=
 (evV E g).bind fun x=>(evVs E as).bind fun l=>(callOf call l s x).bind fun r=>if keeps E s r.2 ks then some (some (toTV r.1),r.2) else none
theorem callE_keeps {call:Caller} {ks:List Nat} {g:AO} {as:List AO} {E:Nat → Option TV} {s:Sg} {r:Option TV × Sg} (h:callE call ks g as E s=some r):keeps E s r.2 ks:=by
 simp only [callE,Obe] at h
 obtain ⟨x,_,l,_,q,_,h⟩:=h
 split at h
 ·rename_i hk;cases h;exact hk
 cases h
theorem callq_run {call:Caller} {dj:Option Nat} {gj:Option (Nat × Bool)} {ks:List Nat} {g:AO} {as:List AO} (fr:Fr):run1 call ⟨dj,gj,.callq ks g as⟩ fr=(callE call ks g as fr.env fr.sg).bind fun r=>some (putD { fr with sg:=r.2 } dj r.1):=by
 simp only [run1,aop,callE]
 cases evV fr.env g with
 | none=>rfl
 | some x =>
   simp only [Obs]
   cases evVs fr.env as with
   | none=>rfl
   | some l =>
     simp only [Obs]
     cases callOf call l fr.sg x with
     | none=>rfl
     | some r =>
       simp only [Obs,qres]
       by_cases hh:keeps fr.env fr.sg r.2 ks
       ·simp only [if_pos hh,Obs]
       simp only [if_neg hh,Option.bind_none]
theorem callq_ext {call:Caller} {ks:List Nat} {g:AO} {as:List AO} (E E':Nat → Option TV) (s:Sg) (h:∀ k,k ∈ (AOp.callq ks g as).rs → E k=E' k):callE call ks g as E s=callE call ks g as E' s:=by
 have a1:evV E g=evV E' g:=by
  unfold evV
  rw [ev_ext fun k hk=>h k (by simp [AOp.rs,hk])]
 have a2:evVs E as=evVs E' as:=evVs_ext (s:=s) fun k hk=>h k (by simp [AOp.rs,hk])
 have a3:∀ s',keeps E s s' ks ↔ keeps E' s s' ks:=fun s'=>keeps_ag fun k hk=>h k (by simp [AOp.rs,hk])
 simp only [callE,a1,a2]
 congr 1
 funext x
 congr 1
 funext l
 congr 1
 funext r
 by_cases hh:keeps E s r.2 ks
 ·rw [if_pos hh,if_pos ((a3 _).1 hh)]
 rw [if_neg hh,if_neg fun x=>hh ((a3 _).2 x)]
theorem comm_q {call:Caller} {i j:AIns} (h:qIndep i j=true) (f:Fr):(ins call i f).bind (ins call j)=(ins call j f).bind (ins call i):=by
 obtain ⟨di,gi,oi⟩:=i
 obtain ⟨dj,gj,oj⟩:=j
 unfold qIndep at h
 simp only [Bae] at h
 obtain ⟨hop,hd⟩:=h
 split at hop
 ·rename_i _ _ tk rt n a ks g as
  have hrt:rt ∈ ks:=by simpa using hop
  refine comm_rw (fun E s=>ldoE E s tk rt n a) (callE call ks g as) hd ldo_run callq_run ldo_ext callq_ext (fun E s r hr=>?_) f
  have hk:=callE_keeps hr
  have key:∀ ks:List Nat,keeps E s r.2 ks → rt ∈ ks → (∃ id off o,E rt=some (.val (.ptr id off)) ∧ s.ob id=some o ∧ r.2.ob id=some o) ∨ ∃ g o l z,E rt=some (.val (.ms g o l z)) ∧ r.2.mu g=s.mu g:=by
   intro ks
   induction ks with
   | nil=>intro _ hm;cases hm
   | cons k ks ih =>
     intro hk hm
     cases hm with
     | head=>exact hk.1
     | tail _ hm=>exact ih hk.2 hm
  unfold ldoE
  rcases key ks hk hrt with ⟨id,off,o,e1,e2,e3⟩ | ⟨g',o,l,z,e1,e2⟩
  ·have e2:r.2.ob id=s.ob id:=e3.trans e2.symm
   rw [e1]
   simp only [Obs]
   cases ev E a with
   | none=>rfl
   | some p =>
     have e:ldoAt tk r.2 n (.val (.ptr id off)) p=ldoAt tk s n (.val (.ptr id off)) p:=by
      cases p with
      | val v =>
        cases v with
        | ptr i o =>
          simp only [ldoAt]
          by_cases hh:id=i
          ·subst hh;rw [e2]
          simp [hh]
        | _=>rfl
      | _=>rfl
     simp only [Obs,e]
  rw [e1]
  simp only [Obs]
  cases ev E a with
  | none=>rfl
  | some p =>
    have e:ldoAt tk r.2 n (.val (.ms g' o l z)) p=ldoAt tk s n (.val (.ms g' o l z)) p:=by
     cases p with
     | val v =>
       cases v with
       | mp i o =>
         simp only [ldoAt]
         by_cases hh:g'=i
         ·subst hh;rw [e2]
         simp [hh]
       | _=>rfl
     | _=>rfl
    simp only [Obs,e]
 cases hop
def gIndep (i j:AIns):Bool :=
 (match i.op,j.op with
 | .wop (.gad _ _ _) _,.callq _ _ _=>true
 | _,_=>false) && dIndep i j
noncomputable def gadE (E:Nat → Option TV) (s:Sg) (g sz:Nat) (cs:List AV) (xs:List AO):Option TV:=(evVs E xs).bind fun l=>(wopOf (.gad g sz cs) s l).bind fun r=>some (.val r.1)
theorem gad_same {g sz:Nat} {cs:List AV} {s:Sg} {l:List AV} {r:AV × Sg} (h:wopOf (.gad g sz cs) s l=some r):r.2=s:=by
 unfold wopOf at h
 split at h <;> first
  | (cases h;done)
  | skip
 all_goals first
  | (simp only [Obe,Oie] at h;obtain ⟨_,_,_,_,rfl⟩:=h;rfl)
  | (rename_i e _ _ ; cases e;done)
  | (simp_all;done)
theorem gad_Q {g sz:Nat} {cs:List AV} {s s':Sg} (h:s'.Q=s.Q):(fun l=>(wopOf (.gad g sz cs) s' l).bind fun r=>some (TV.val r.1))=fun l=>(wopOf (.gad g sz cs) s l).bind fun r=>some (TV.val r.1):=by
 funext l
 rcases l with _ | ⟨x,_ | ⟨i,r⟩⟩
 ·rfl
 ·simp only [wopOf,gadOf,h]
  cases asN x with
  | none=>rfl
  | some n =>
    simp only [Obs]
    by_cases hc:0 ≤ n ∧ n.toNat * sz < cs.length ∧ ∀ (j:Nat) (c:AV),cs[j]?=some c → s.Q g j=some c
    ·rw [if_pos hc,if_pos (by rw [h];exact hc)];rfl
    rw [if_neg hc,if_neg (by rw [h];exact hc)];rfl
 rfl
theorem comm_g {call:Caller} {i j:AIns} (h:gIndep i j=true) (f:Fr):(ins call i f).bind (ins call j)=(ins call j f).bind (ins call i):=by
 obtain ⟨di,gi,oi⟩:=i
 obtain ⟨dj,gj,oj⟩:=j
 unfold gIndep at h
 simp only [Bae] at h
 obtain ⟨hop,hd⟩:=h
 split at hop
 ·rename_i _ _ gg sz cs xs ks g as
  refine comm_rw (fun E s=>gadE E s gg sz cs xs) (callE call ks g as) hd (fun fr=>?_) callq_run (fun E E' s h=>?_) callq_ext (fun E s r hr=>?_) f
  ·simp only [run1,aop,gadE]
   cases evVs fr.env xs with
   | none=>rfl
   | some l =>
     simp only [Obs]
     cases hl:wopOf (.gad gg sz cs) fr.sg l with
     | none=>rfl
     | some r =>
       have:=gad_same hl
       simp only [Obs,this]
  ·simp only [gadE]
   rw [evVs_ext (s:=s) fun k hk=>h k (by simpa [AOp.rs] using hk)]
  have hk:=callE_keeps hr
  have key:∀ ks:List Nat,keeps E s r.2 ks → r.2.Q=s.Q:=by
   intro ks
   induction ks with
   | nil=>exact id
   | cons k ks ih=>exact fun hk=>ih hk.2
  simp only [gadE,gad_Q (key ks hk)]
 cases hop
def WOp.kob:WOp → Bool
 | .mks _ _ _=>true
 | .appm _ _=>true
 | .cpy _=>true
 | .frz _=>true
 | .bslm _ _=>true
 | _=>false
theorem frz_ob {sz:Nat} {s s':Sg} {x v:AV} (e:frzOf sz s x=some (v,s')):s'.ob=s.ob:=by
 unfold frzOf at e
 split at e
 ·split at e
  ·simp only [Obe] at e
   obtain ⟨cs,_,e⟩:=e
   split at e
   ·cases e;rfl
   cases e
  cases e
 ·split at e
  ·cases e;rfl
  cases e
 cases e
theorem wop_kob {k:WOp} {s s':Sg} {l:List AV} {v:AV} (h:k.kob=true) (e:wopOf k s l=some (v,s')):s'.ob=s.ob:=by
 unfold wopOf at e
 split at e
 ·simp only [Obe] at e
  obtain ⟨n,_,m,_,e⟩:=e
  unfold mksOf at e
  split at e
  ·cases e;rfl
  cases e
 ·unfold appmOf at e
  split at e
  ·split at e
   ·simp only [Obe] at e
    obtain ⟨r,_,cs,_,e⟩:=e
    split at e
    ·split at e
     ·cases e;rfl
     cases e;rfl
    cases e
   cases e
  ·split at e
   ·simp only [Obe] at e
    obtain ⟨r,_,e⟩:=e
    split at e
    ·split at e
     ·cases e;rfl
     cases e;rfl
    cases e
   cases e
  cases e
 ·unfold cpyOf at e
  split at e
  ·split at e
   ·simp only [Obe] at e
    obtain ⟨r,_,cs,_,e⟩:=e
    split at e
    ·cases e;rfl
    cases e
   cases e
  ·split at e
   ·simp only [Obe] at e
    obtain ⟨r,_,e⟩:=e
    cases e;rfl
   cases e
  cases e
 ·exact frz_ob e
 all_goals first
  | (cases h;done)
  | skip
 ·unfold bslmOf at e
  split at e
  ·cases e;rfl
  cases e
 cases e
def wIndep (i j:AIns):Bool :=
 (match i.op,j.op with
 | .ldo false _ _ _,.wop k _=>k.kob
 | _,_=>false) && dIndep i j
theorem comm_w {call:Caller} {i j:AIns} (h:wIndep i j=true) (f:Fr):(ins call i f).bind (ins call j)=(ins call j f).bind (ins call i):=by
 obtain ⟨di,gi,oi⟩:=i
 obtain ⟨dj,gj,oj⟩:=j
 unfold wIndep at h
 simp only [Bae] at h
 obtain ⟨hop,hd⟩:=h
 split at hop
 ·rename_i _ _ rt n a k xs
  have hkob:k.kob=true:=hop
  refine comm_rw (fun E s=>ldoE E s false rt n a) (fun E s=>(evVs E xs).bind fun l=>(wopOf k s l).bind fun r=>some (some (.val r.1),r.2)) hd ldo_run (fun fr=>?_) ldo_ext (fun E E' s h=>?_) (fun E s r hr=>?_) f
  ·simp only [run1,aop]
   cases evVs fr.env xs with
   | none=>rfl
   | some l =>
     simp only [Obs]
     cases wopOf k fr.sg l <;> rfl
  ·rw [evVs_ext (s:=s) fun k hk=>h k (by simpa [AOp.rs] using hk)]
  simp only [Obe,Oie] at hr
  obtain ⟨l,_,⟨v,s'⟩,hq,rfl⟩:=hr
  have e:=wop_kob hkob hq
  unfold ldoE
  congr 1
  funext q
  congr 1
  funext p
  congr 1
  cases q with
  | val v=>cases v <;> simp only [ldoAt,e] <;> rfl
  | _=>rfl
 cases hop
def sIndep (i j:AIns):Bool :=
 (match i.op,j.op with
 | .sts true _ _ _,.sts false _ _ _=>true
 | _,_=>false) && i.d.isNone && j.d.isNone
theorem sts_comm {n n':Nat} {s:Sg} {v p u q:AV}:(stsS true n s v p).bind (fun s=>stsS false n' s u q)=(stsS false n' s u q).bind (fun s=>stsS true n s v p):=by
 by_cases h1:stsK true n v p=true
 ·by_cases h2:stsK false n' u q=true
  ·simp only [stsS,if_pos h1,if_pos h2]
   cases p with
   | mp g off =>
     cases q with
     | ptr id o =>
       simp only
       cases hm:s.mu g with
       | none =>
         cases ho:s.ob id with
         | none=>rfl
         | some x =>
           cases x with
           | map kk f=>rfl
           | row cs =>
             simp only [Option.bind_none]
             split
             ·simp only [Obs,Sg.set,hm,Option.bind_none]
             rfl
       | some ds =>
         simp only [Obs]
         cases ho:s.ob id with
         | none =>
           split
           ·simp only [Obs,ho,Option.bind_none]
           rfl
         | some x =>
           cases x with
           | map kk f =>
             split
             ·simp only [Obs,ho,Option.bind_none]
             rfl
           | row cs =>
             simp only
             by_cases c1:off + v.cells.length ≤ ds.length
             ·by_cases c2:o + u.cells.length ≤ cs.length
              ·simp only [if_pos c1,if_pos c2,Obs,ho,Sg.set,hm]
              simp only [if_pos c1,if_neg c2,Obs,ho,Option.bind_none]
             by_cases c2:o + u.cells.length ≤ cs.length
             ·simp only [if_neg c1,if_pos c2,Obs,Option.bind_none,Sg.set,hm]
             simp only [if_neg c1,if_neg c2,Option.bind_none]
     | _=>simp [stsK] at h2
   | _=>simp [stsK] at h1
  simp only [stsS,if_neg h2]
  cases (if stsK true n v p=true then _ else none:Option Sg) <;> rfl
 simp only [stsS,if_neg h1]
 cases (if stsK false n' u q=true then _ else none:Option Sg) <;> rfl
theorem comm_s {call:Caller} {i j:AIns} (h:sIndep i j=true) (f:Fr):(ins call i f).bind (ins call j)=(ins call j f).bind (ins call i):=by
 obtain ⟨di,gi,oi⟩:=i
 obtain ⟨dj,gj,oj⟩:=j
 unfold sIndep at h
 simp only [Bae,Option.isNone_iff_eq_none] at h
 obtain ⟨⟨hop,rfl⟩,rfl⟩:=h
 split at hop
 ·rename_i _ _ n a x n' b y
  have run:∀ (m:Bool) (n:Nat) (a x:AO) (g:Option (Nat × Bool)) (fr:Fr),run1 call ⟨none,g,.sts m n a x⟩ fr=((evV fr.env a).bind fun p=>(evV fr.env x).bind fun v=>stsS m n fr.sg v p).map fun s=>{ fr with sg:=s }:=by
   intro m n a x g fr
   simp only [run1,aop]
   cases evV fr.env a with
   | none=>rfl
   | some p =>
     simp only [Obs]
     cases evV fr.env x with
     | none=>rfl
     | some v =>
       simp only [Obs]
       cases stsS m n fr.sg v p <;> rfl
  show ((ins call ⟨none,gi,.sts true n a x⟩ f).bind fun z=>ins call ⟨none,gj,.sts false n' b y⟩ z)=((ins call ⟨none,gj,.sts false n' b y⟩ f).bind fun z=>ins call ⟨none,gi,.sts true n a x⟩ z)
  simp only [ins_evG,run]
  have hput:∀ (fr:Fr) (v:Option TV),putD fr none v=fr:=fun _ _=>rfl
  simp only [hput]
  cases hgi:evG f.env gi with
  | none =>
    simp only [Option.bind_none]
    cases hgj:evG f.env gj with
    | none=>rfl
    | some bj =>
      simp only [Obs]
      cases bj with
      | false=>simp only [Bool.false_eq_true,if_false,Obs,hgi,Option.bind_none]
      | true =>
        simp only [if_true]
        cases ((evV f.env b).bind fun p=>(evV f.env y).bind fun v=>stsS false n' f.sg v p) with
        | none=>rfl
        | some s=>simp only [Option.map_some,Obs,hgi,Option.bind_none]
  | some bi =>
    simp only [Obs]
    cases hgj:evG f.env gj with
    | none =>
      simp only [Option.bind_none]
      cases bi with
      | false=>simp only [Bool.false_eq_true,if_false,Obs,hgj,Option.bind_none]
      | true =>
        simp only [if_true]
        cases ((evV f.env a).bind fun p=>(evV f.env x).bind fun v=>stsS true n f.sg v p) with
        | none=>rfl
        | some s=>simp only [Option.map_some,Obs,hgj,Option.bind_none]
    | some bj =>
      simp only [Obs]
      cases bi with
      | false =>
        simp only [Bool.false_eq_true,if_false,Obs,hgj]
        cases bj with
        | false=>simp only [Bool.false_eq_true,if_false,Obs,hgi]
        | true =>
          simp only [if_true]
          cases ((evV f.env b).bind fun p=>(evV f.env y).bind fun v=>stsS false n' f.sg v p) with
          | none=>rfl
          | some s=>simp only [Option.map_some,Obs,hgi,Bool.false_eq_true,if_false]
      | true =>
        cases bj with
        | false =>
          simp only [if_true,Bool.false_eq_true,if_false,Obs,hgi]
          cases ((evV f.env a).bind fun p=>(evV f.env x).bind fun v=>stsS true n f.sg v p) with
          | none=>rfl
          | some s=>simp only [Option.map_some,Obs,hgj,Bool.false_eq_true,if_false]
        | true =>
          simp only [if_true]
          cases e1:evV f.env a with
          | none =>
            simp only [Option.bind_none,Option.map_none]
            cases ((evV f.env b).bind fun p=>(evV f.env y).bind fun v=>stsS false n' f.sg v p) with
            | none=>rfl
            | some s=>simp only [Option.map_some,Obs,hgi,if_true,e1,Option.bind_none,Option.map_none]
          | some p =>
            cases e2:evV f.env x with
            | none =>
              simp only [Obs,Option.bind_none,Option.map_none]
              cases ((evV f.env b).bind fun p=>(evV f.env y).bind fun v=>stsS false n' f.sg v p) with
              | none=>rfl
              | some s=>simp only [Option.map_some,Obs,hgi,if_true,e1,e2,Option.bind_none,Option.map_none]
            | some v =>
              cases e3:evV f.env b with
              | none =>
                simp only [Obs,Option.bind_none,Option.map_none]
                cases stsS true n f.sg v p with
                | none=>rfl
                | some s=>simp only [Option.map_some,Obs,hgj,if_true,e3,Option.bind_none,Option.map_none]
              | some q =>
                cases e4:evV f.env y with
                | none =>
                  simp only [Obs,Option.bind_none,Option.map_none]
                  cases stsS true n f.sg v p with
                  | none=>rfl
                  | some s=>simp only [Option.map_some,Obs,hgj,if_true,e3,e4,Option.bind_none,Option.map_none]
                | some u =>
                  simp only [Obs]
                  have hc:=sts_comm (n:=n) (n':=n') (s:=f.sg) (v:=v) (p:=p) (u:=u) (q:=q)
                  have l1:∀ o:Option Sg,((o.map fun s=>({ f with sg:=s }:Fr)).bind fun z=>(evG z.env gj).bind fun t=>if t=true then Option.map (fun s=>({ z with sg:=s }:Fr)) ((evV z.env b).bind fun p=>(evV z.env y).bind fun v=>stsS false n' z.sg v p) else some z)=(o.bind fun s=>stsS false n' s u q).map fun s=>({ f with sg:=s }:Fr):=by
                   intro o
                   cases o with
                   | none=>rfl
                   | some s=>simp only [Option.map_some,Obs,hgj,if_true,e3,e4]
                  have l2:∀ o:Option Sg,((o.map fun s=>({ f with sg:=s }:Fr)).bind fun z=>(evG z.env gi).bind fun t=>if t=true then Option.map (fun s=>({ z with sg:=s }:Fr)) ((evV z.env a).bind fun p=>(evV z.env x).bind fun v=>stsS true n z.sg v p) else some z)=(o.bind fun s=>stsS true n s v p).map fun s=>({ f with sg:=s }:Fr):=by
                   intro o
                   cases o with
                   | none=>rfl
                   | some s=>simp only [Option.map_some,Obs,hgi,if_true,e1,e2]
                  rw [l1,l2,hc]
 cases hop
def mIndep (i j:AIns):Bool :=
 (match i.op,j.op with
 | .ldo false _ _ _,.mu _ _ _ _=>true
 | _,_=>false) && dIndep i j
noncomputable def muE (kk:KK) (m k v:AO) (E:Nat → Option TV) (s:Sg):Option (Option TV × Sg) :=
 (evV E m).bind fun m=>(evV E k).bind fun k=>(keyOf kk k).bind fun k=>(evV E v).bind fun v=>(mapOf s kk m).bind fun r=>some (none,s.set r.1 (.map kk (mset r.2 k (some v.er))))
theorem mu_run {call:Caller} {dj:Option Nat} {gj:Option (Nat × Bool)} {kk:KK} {m k v:AO} (fr:Fr):run1 call ⟨dj,gj,.mu kk m k v⟩ fr=(muE kk m k v fr.env fr.sg).bind fun r=>some (putD { fr with sg:=r.2 } dj r.1):=by
 simp only [run1,aop,muE]
 cases evV fr.env m with
 | none=>rfl
 | some a =>
   simp only [Obs]
   cases evV fr.env k with
   | none=>rfl
   | some b =>
     simp only [Obs]
     cases keyOf kk b with
     | none=>rfl
     | some b =>
       simp only [Obs]
       cases evV fr.env v with
       | none=>rfl
       | some c =>
         simp only [Obs]
         cases mapOf fr.sg kk a <;> rfl
theorem evV_ext {E E':Nat → Option TV} {a:AO} (h:∀ k,k ∈ a.rs → E k=E' k):evV E a=evV E' a:=by
 unfold evV
 rw [ev_ext h]
theorem mapOf_ob {s:Sg} {kk:KK} {m:AV} {r:Nat × (Value → Option AV)} (h:mapOf s kk m=some r):∃ kk',s.ob r.1=some (.map kk' r.2):=by
 unfold mapOf at h
 split at h
 ·split at h
  ·rename_i hq
   split at h
   ·cases h
    exact ⟨_,hq⟩
   cases h
  cases h
 cases h
theorem comm_m {call:Caller} {i j:AIns} (h:mIndep i j=true) (f:Fr):(ins call i f).bind (ins call j)=(ins call j f).bind (ins call i):=by
 obtain ⟨di,gi,oi⟩:=i
 obtain ⟨dj,gj,oj⟩:=j
 unfold mIndep at h
 simp only [Bae] at h
 obtain ⟨hop,hd⟩:=h
 split at hop
 ·rename_i _ _ rt n a kk m k v
  refine comm_rw (fun E s=>ldoE E s false rt n a) (muE kk m k v) hd ldo_run mu_run ldo_ext (fun E E' s h=>?_) (fun E s r hr=>?_) f
  ·unfold muE
   rw [evV_ext (a:=m) fun q hq=>h q (by simp [AOp.rs,hq]),evV_ext (a:=k) fun q hq=>h q (by simp [AOp.rs,hq]),evV_ext (a:=v) fun q hq=>h q (by simp [AOp.rs,hq])]
  simp only [muE,Obe,Oie] at hr
  obtain ⟨a1,_,b1,_,c1,_,d1,_,q,hq,rfl⟩:=hr
  obtain ⟨kk',hob⟩:=mapOf_ob hq
  have key:∀ x y,ldoAt false (s.set q.1 (.map kk (mset q.2 c1 (some d1.er)))) n x y=ldoAt false s n x y:=by
   intro x y
   unfold ldoAt
   split
   ·rename_i i1 o1 id off
    simp only [Sg.set]
    by_cases e:id=q.1
    ·subst e
     rw [upd_same,hob]
    rw [upd_ne _ _ e]
   ·rfl
   rfl
  unfold ldoE
  simp only [key]
 cases hop
def indepF (fs:List Nat) (i j:AIns):Bool:=indep i j || alIndep fs i j || alIndep fs j i || qIndep i j || qIndep j i || wIndep i j || wIndep j i || sIndep i j || sIndep j i || gIndep i j || gIndep j i || mIndep i j || mIndep j i
def uniqAl (fs:List Nat) (l:List AIns) (dm:AIns):Bool :=
 (List.range l.length).all fun k=>match alOf (l.getD k dm) with
   | some d=>!fs.contains d || (List.range l.length).all fun m=>m == k || (match (l.getD m dm).d with
     | some e=>d != e
     | none=>true)
   | none=>true
section
variable {call:Caller} {X:Nat → AIns}
theorem exL_move {fs:List Nat} {m:Nat} (hu:∀ x d,alOf (X m)=some d → d ∈ fs → x ≠ m → (X x).d ≠ some d):∀ (l1 l2:List Nat) (f:Fr),(∀ x ∈ l1,x ≠ m ∧ indepF fs (X m) (X x)=true ∧ ∀ y d,alOf (X x)=some d → d ∈ fs → y ≠ x → (X y).d ≠ some d) → (l1 ++ m :: l2).Nodup → FreshAll fs X (m :: l1) f →
 exL call ((l1 ++ m :: l2).map X) f=exL call ((m :: (l1 ++ l2)).map X) f
 | [],l2,f,_,_,_=>rfl
 | x :: l1,l2,f,h,hnd,hF=>by
   obtain ⟨hxm,hi,hux⟩:=h x (List.mem_cons_self ..)
   have hc:(ins call (X m) f).bind (ins call (X x))=(ins call (X x) f).bind (ins call (X m)):=by
    simp only [indepF,Bool.or_eq_true] at hi
    rcases hi with (((((((((((hi | hi) | hi) | hi) | hi) | hi) | hi) | hi) | hi) | hi) | hi) | hi) | hi
    ·exact comm hi f
    ·exact comm_al hi (fun d=>hF m (List.mem_cons_self ..) d)
    ·exact (comm_al hi (fun d=>hF x (List.mem_cons_of_mem _ (List.mem_cons_self ..)) d)).symm
    ·exact comm_q hi f
    ·exact (comm_q hi f).symm
    ·exact comm_w hi f
    ·exact (comm_w hi f).symm
    ·exact comm_s hi f
    ·exact (comm_s hi f).symm
    ·exact comm_g hi f
    ·exact (comm_g hi f).symm
    ·exact comm_m hi f
    exact (comm_m hi f).symm
   have hx1:x ∉ l1:=by
    intro hh
    rw [List.cons_append,List.nodup_cons] at hnd
    exact hnd.1 (List.mem_append_left _ hh)
   have ih:∀ g,ins call (X x) f=some g → exL call ((l1 ++ m :: l2).map X) g=exL call ((m :: (l1 ++ l2)).map X) g:=fun g hg =>
    exL_move hu l1 l2 g (fun y hy=>h y (List.mem_cons_of_mem _ hy)) (List.nodup_cons.1 hnd).2 (by
     intro k hk d hd hdf
     have hkx:k ≠ x:=by
      cases hk with
      | head=>exact fun e=>hxm e.symm
      | tail _ hk=>exact fun e=>hx1 (e ▸ hk)
     have hk':k ∈ m :: x :: l1:=by
      cases hk with
      | head=>exact List.mem_cons_self ..
      | tail _ hk=>exact List.mem_cons_of_mem _ (List.mem_cons_of_mem _ hk)
     refine ins_fresh (hF k hk' d hd hdf) ?_ hg
     cases hk with
     | head=>exact hu x d hd hdf hxm
     | tail _ hk=>exact (h k (List.mem_cons_of_mem _ hk)).2.2 x d hd hdf (Ne.symm hkx))
   show (ins call (X x) f).bind (fun g=>exL call ((l1 ++ m :: l2).map X) g)=(ins call (X m) f).bind fun g=>(ins call (X x) g).bind fun g=>exL call ((l1 ++ l2).map X) g
   have e1:((ins call (X x) f).bind fun g=>exL call ((l1 ++ m :: l2).map X) g)=(ins call (X x) f).bind fun g=>(ins call (X m) g).bind fun g=>exL call ((l1 ++ l2).map X) g:=by
    cases hg:ins call (X x) f with
    | none=>rfl
    | some g=>exact ih g hg
   rw [e1,← Option.bind_assoc,← Option.bind_assoc]
   exact congrArg (fun o=>o.bind fun g=>exL call ((l1 ++ l2).map X) g) hc.symm
theorem reorder {fs:List Nat} {D:Nat → List Nat} {n:Nat} (hx:∀ m x,m < x → x < n → ¬ Anc D x m → indepF fs (X m) (X x)=true) (hu:∀ m x d,m < n → x < n → alOf (X m)=some d → d ∈ fs → x ≠ m → (X x).d ≠ some d) (hz:∀ k,n ≤ k → (X k).d=none ∧ alOf (X k)=none) :
 ∀ (S l:List Nat) (f:Fr),S.Pairwise (· < ·) → (∀ x ∈ S,x < n) → l.Perm S → GoodS D S (fun _=>False) l → FreshAll fs X S f →
 exL call (l.map X) f=exL call (S.map X) f
 | [],l,f,_,_,hp,_,_=>by rw [List.perm_nil.1 hp]
 | m :: S,l,f,hs,hn,hp,hg,hF=>by
   have hml:m ∈ l:=hp.symm.subset (List.mem_cons_self ..)
   obtain ⟨l1,l2,rfl⟩:=List.append_of_mem hml
   have hnd:(l1 ++ m :: l2).Nodup:=hp.symm.nodup (hs.imp fun h=>Nat.ne_of_lt h)
   have hm1:m ∉ l1:=fun h=>by
    have:=List.nodup_append.1 hnd
    exact this.2.2 m h m (List.mem_cons_self ..) rfl
   have hp':(l1 ++ l2).Perm S:=by
    have:(m :: (l1 ++ l2)).Perm (m :: S):=List.perm_middle.symm.trans hp
    exact this.cons_inv
   have hmS:m ∉ S:=fun h=>by
    have:=List.rel_of_pairwise_cons hs h
    omega
   have hna:=GoodS.noAnc (List.mem_cons_self ..) l1 (m :: l2) _ (fun h=>h) hm1 hg
   have hmn:m < n:=hn m (List.mem_cons_self ..)
   have hall:∀ k x d,alOf (X k)=some d → d ∈ fs → x ≠ k → (X x).d ≠ some d:=by
    intro k x d hd hdf hne
    rcases Nat.lt_or_ge k n with hk | hk
    ·rcases Nat.lt_or_ge x n with hxn | hxn
     ·exact hu k x d hk hxn hd hdf hne
     rw [(hz x hxn).1];simp
    rw [(hz k hk).2] at hd;cases hd
   have hl1S:∀ x ∈ l1,x ∈ S:=fun x hx'=>hp'.subset (List.mem_append_left _ hx')
   rw [exL_move (fs:=fs) (m:=m) (fun x d=>hall m x d) l1 l2 f (fun x hx'=>⟨fun e=>hm1 (e ▸ hx'),hx m x (List.rel_of_pairwise_cons hs (hl1S x hx')) (hn x (List.mem_cons_of_mem _ (hl1S x hx'))) (hna x hx'),fun y d=>hall x y d⟩) hnd
    (by
      intro k hk d hd hdf
      refine hF k ?_ d hd hdf
      cases hk with
      | head=>exact List.mem_cons_self ..
      | tail _ hk=>exact List.mem_cons_of_mem _ (hl1S k hk))]
   simp only [List.map_cons,exL]
   cases hi:ins call (X m) f with
   | none=>rfl
   | some g =>
     simp only [Obs]
     refine reorder hx hu hz S (l1 ++ l2) g hs.of_cons (fun x h=>hn x (List.mem_cons_of_mem _ h)) hp' (GoodS.drop hmS l1 l2 _ _ (fun _ _ h=>h) hg) ?_
     intro k hk d hd hdf
     refine ins_fresh (hF k (List.mem_cons_of_mem _ hk) d hd hdf) (hall k m d hd hdf (fun e=>hmS (e ▸ hk))) hi
end
def depsOf (ops:Array Oper) (i:Nat):List Nat:=((ops[i]?).map fun o=>(o.after.toList.filter (Region.binds .any)).map (·.on)).getD []
def edgesOk (ops:Array Oper):Bool:=(List.range ops.size).all fun i=>(depsOf ops i).all fun d=>decide (d < i)
theorem edgesOk_lt {ops:Array Oper} (h:edgesOk ops=true) {i d:Nat} (hd:d ∈ depsOf ops i):d < i:=by
 by_cases hi:i < ops.size
 ·have:=List.all_eq_true.1 (List.all_eq_true.1 h i (List.mem_range.2 hi)) d hd
  simpa using this
 unfold depsOf at hd
 rw [Array.getElem?_eq_none (by omega)] at hd
 simp at hd
def DirectS (ops:Array Oper):List Nat → Prop
 | []=>True
 | x :: l=>(∀ d ∈ depsOf ops x,d ∈ l) ∧ DirectS ops l
structure LInv (ops:Array Oper) (listed:Array Bool) (acc:List Nat):Prop where
 size:listed.size=ops.size
 lst:∀ i,i < ops.size → (listed.getD i true=true ↔ i ∈ acc)
 nd:acc.Nodup
 lt:∀ i ∈ acc,i < ops.size
 dir:DirectS ops acc
theorem ready_iff {ops:Array Oper} {listed:Array Bool} {acc:List Nat} (h:LInv ops listed acc) {i:Nat} (hi:i < ops.size) (ho:edgesOk ops=true) :
 (!listed.getD i true && ((ops[i]?).map (·.after.all fun e=>!Region.binds .any e || listed.getD e.on false)).getD false)=true ↔ i ∉ acc ∧ ∀ d ∈ depsOf ops i,d ∈ acc:=by
 have e0:ops[i]?=some ops[i]:=Array.getElem?_eq_getElem hi
 have hl:∀ d,d < ops.size → (listed.getD d false=true ↔ d ∈ acc):=by
  intro d hd
  rw [← h.lst d hd]
  simp [Array.getD,h.size,hd]
 rw [e0]
 simp only [Option.map_some,Option.getD_some,Bae,Bool.not_eq_true',Array.all_eq_true',Bool.or_eq_true]
 constructor
 ·rintro ⟨h1,h2⟩
  refine ⟨fun hm=>?_,fun d hd=>?_⟩
  ·rw [(h.lst i hi).2 hm] at h1;cases h1
  have hd':=edgesOk_lt ho hd
  unfold depsOf at hd
  rw [e0] at hd
  simp only [Option.map_some,Option.getD_some,List.mem_map,List.mem_filter,Array.mem_toList_iff] at hd
  obtain ⟨e,⟨he,hb⟩,rfl⟩:=hd
  rcases h2 e he with h3 | h3
  ·rw [hb] at h3;cases h3
  exact (hl _ (by omega)).1 h3
 rintro ⟨h1,h2⟩
 refine ⟨?_,fun e he=>?_⟩
 ·cases hx:listed.getD i true with
  | false=>rfl
  | true=>exact absurd ((h.lst i hi).1 hx) h1
 cases hb:Region.binds .any e with
 | false=>exact .inl rfl
 | true =>
   have hm:e.on ∈ depsOf ops i:=by
    unfold depsOf
    rw [e0]
    simp only [Option.map_some,Option.getD_some,List.mem_map,List.mem_filter,Array.mem_toList_iff]
    exact ⟨e,⟨he,hb⟩,rfl⟩
   have hd':=edgesOk_lt ho hm
   exact .inr ((hl _ (by omega)).2 (h2 _ hm))
theorem LInv.add {ops:Array Oper} {listed:Array Bool} {acc:List Nat} (h:LInv ops listed acc) {i:Nat} (hi:i < ops.size) (h1:i ∉ acc) (h2:∀ d ∈ depsOf ops i,d ∈ acc):LInv ops (listed.setIfInBounds i true) (i :: acc):=by
 refine ⟨by simp [h.size],?_,List.nodup_cons.2 ⟨h1,h.nd⟩,?_,h2,h.dir⟩
 ·intro j hj
  have hjs:j < listed.size:=by rw [h.size];exact hj
  have hj2:j < (listed.setIfInBounds i true).size:=by simpa using hjs
  simp only [Array.getD,hj2,dite_true,List.mem_cons]
  rw [Array.getInternal_eq_getElem,Array.getElem_setIfInBounds hjs]
  by_cases hij:i=j
  ·subst hij;simp
  rw [if_neg hij]
  have:=h.lst j hj
  simp only [Array.getD,hjs,dite_true,Array.getInternal_eq_getElem] at this
  rw [this]
  simp [Ne.symm hij]
 intro j hj
 cases hj with
 | head=>exact hi
 | tail _ hj=>exact h.lt j hj
theorem len_le:∀ {l m:List Nat},l.Nodup → (∀ x ∈ l,x ∈ m) → l.length ≤ m.length
 | [],_,_,_=>Nat.zero_le _
 | x :: l,m,hl,h=>by
   obtain ⟨m1,m2,rfl⟩:=List.append_of_mem (h x (List.mem_cons_self ..))
   have hx:=List.nodup_cons.1 hl
   have:=len_le (l:=l) (m:=m1 ++ m2) hx.2 fun y hy=>by
    have:=h y (List.mem_cons_of_mem _ hy)
    simp only [List.mem_append,List.mem_cons] at this ⊢
    rcases this with h' | rfl | h'
    ·exact .inl h'
    ·exact absurd hy hx.1
    exact .inr h'
   simp only [List.length_append,List.length_cons] at this ⊢
   omega
theorem perm_range {r:List Nat} {n:Nat} (hn:r.Nodup) (hl:∀ i ∈ r,i < n) (hr:r.length=n):r.Perm (List.range n):=by
 refine (List.perm_ext_iff_of_nodup hn List.nodup_range).2 fun i=>⟨fun h=>List.mem_range.2 (hl i h),fun h=>?_⟩
 refine Classical.byContradiction fun hm=>?_
 have:=len_le (l:=i :: r) (m:=List.range n) (List.nodup_cons.2 ⟨hm,hn⟩) fun x hx=>by
  cases hx with
  | head=>exact h
  | tail _ hx=>exact List.mem_range.2 (hl x hx)
 simp at this
 omega
theorem go_inv {ops:Array Oper} (ho:edgesOk ops=true):∀ (fuel t:Nat) (listed:Array Bool) (acc:List Nat),LInv ops listed acc → acc.length + fuel=ops.size →
 ∃ r listed',Region.linearise.go .any ops fuel t listed acc=r.reverse ∧ LInv ops listed' r ∧ r.length=ops.size
 | 0,t,listed,acc,h,hl=>⟨acc,listed,rfl,h,by omega⟩
 | fuel + 1,t,listed,acc,h,hl=>by
   unfold Region.linearise.go
   simp only
   generalize hrs:((List.range ops.size).filter fun i=>!listed.getD i true && ((ops[i]?).map (·.after.all fun e=>!Region.binds .any e || listed.getD e.on false)).getD false)=rs
   have hmem:∀ i,i ∈ rs ↔ i < ops.size ∧ i ∉ acc ∧ ∀ d ∈ depsOf ops i,d ∈ acc:=by
    intro i
    rw [← hrs,List.mem_filter,List.mem_range]
    constructor
    ·rintro ⟨h1,h2⟩;exact ⟨h1,(ready_iff h h1 ho).1 h2⟩
    rintro ⟨h1,h2⟩;exact ⟨h1,(ready_iff h h1 ho).2 h2⟩
   have hne:∃ i,i ∈ rs:=by
    have hex:∃ i,i < ops.size ∧ i ∉ acc:=by
     refine Classical.byContradiction fun hno=>?_
     have hall:∀ i,i < ops.size → i ∈ acc:=fun i hi=>Classical.byContradiction fun hm=>hno ⟨i,hi,hm⟩
     have:=len_le (l:=List.range ops.size) (m:=acc) List.nodup_range fun i hi=>hall i (List.mem_range.1 hi)
     simp at this
     omega
    obtain ⟨i,hi,hm⟩:=hex
    induction i using Nat.strongRecOn with
    | _ i ih =>
      by_cases hd:∀ d ∈ depsOf ops i,d ∈ acc
      ·exact ⟨i,(hmem i).2 ⟨hi,hm,hd⟩⟩
      simp only [Classical.not_forall] at hd
      obtain ⟨d,hd1,hd2⟩:=hd
      have hlt:=edgesOk_lt ho hd1
      exact ih d hlt (by omega) hd2
   obtain ⟨i0,hi0⟩:=hne
   have hpos:0 < rs.length:=List.length_pos_of_mem hi0
   have hmod:t % rs.length < rs.length:=Nat.mod_lt _ hpos
   rw [List.getElem?_eq_getElem hmod]
   simp only
   have hin:=(hmem _).1 (List.getElem_mem hmod)
   exact go_inv ho fuel _ _ _ (h.add hin.1 hin.2.1 hin.2.2) (by simp;omega)
theorem DirectS.good {ops:Array Oper} {S:List Nat} (ho:edgesOk ops=true):∀ (l:List Nat),DirectS ops l → ∀ x ∈ l,∀ d,Anc (depsOf ops) x d → d ∈ l
 | [],_,x,hx,d,ha=>by cases hx
 | y :: l,h,x,hx,d,ha=>by
   have ih:=DirectS.good (S:=S) ho l h.2
   cases hx with
   | head =>
     refine List.mem_cons_of_mem _ ?_
     cases ha with
     | one hd=>exact h.1 d hd
     | step hd ha=>exact ih _ (h.1 _ hd) d ha
   | tail _ hx=>exact List.mem_cons_of_mem _ (ih x hx d ha)
theorem goodS_rev {ops:Array Oper} (S:List Nat) (ho:edgesOk ops=true):∀ (l:List Nat),DirectS ops l → ∀ (tl:List Nat) , GoodS (depsOf ops) S (fun x=>x ∈ l) tl → GoodS (depsOf ops) S (fun _=>False) (l.reverse ++ tl)
 | [],_,tl,h=>by
   simpa using h
 | y :: l,hd,tl,h=>by
   rw [List.reverse_cons,List.append_assoc]
   refine goodS_rev S ho l hd.2 ([y] ++ tl) ⟨fun d ha _=>?_,?_⟩
   ·cases ha with
    | one hx=>exact hd.1 d hx
    | step hx ha=>exact DirectS.good (S:=S) ho l hd.2 _ (hd.1 _ hx) d ha
   refine GoodS.weak (fun d hd=>hd) tl _ _ ?_ h
   intro d _ hm
   exact (List.mem_cons.1 hm)
theorem linearise_good {ops:Array Oper} (ho:edgesOk ops=true) (t:Nat):(Region.linearise .any ops t).Perm (List.range ops.size) ∧ GoodS (depsOf ops) (List.range ops.size) (fun _=>False) (Region.linearise .any ops t):=by
 have h0:LInv ops (Array.replicate ops.size false) []:=⟨by simp,fun i hi=>by simp [Array.getD,hi],by simp,by simp,trivial⟩
 obtain ⟨r,listed',h1,h2,h3⟩:=go_inv ho ops.size t _ [] h0 (by simp)
 have hp:r.Perm (List.range ops.size):=perm_range h2.nd h2.lt h3
 unfold Region.linearise
 rw [h1]
 refine ⟨(List.reverse_perm r).trans hp,?_⟩
 have:=goodS_rev (List.range ops.size) ho r h2.dir [] trivial
 simpa using this
def maskOf (ms:List Nat):List Nat → Nat
 | []=>0
 | d :: ds=>2 ^ d ||| (ms.getD d 0 ||| maskOf ms ds)
def masks:List (List Nat) → List Nat → List Nat
 | [],ms=>ms
 | ds :: r,ms=>masks r (ms ++ [maskOf ms ds])
theorem maskOf_bit {ms:List Nat} {i:Nat}:∀ (ds:List Nat),(maskOf ms ds).testBit i=true → ∃ d ∈ ds,i=d ∨ (ms.getD d 0).testBit i=true
 | [],h=>by simp [maskOf] at h
 | d :: ds,h=>by
   simp only [maskOf,Nat.testBit_or,Bool.or_eq_true] at h
   rcases h with h | h | h
   ·rw [Nat.testBit_two_pow] at h
    exact ⟨d,List.mem_cons_self ..,.inl (by have:=Odt h;exact this.symm)⟩
   ·exact ⟨d,List.mem_cons_self ..,.inr h⟩
   obtain ⟨d',h1,h2⟩:=maskOf_bit ds h
   exact ⟨d',List.mem_cons_of_mem _ h1,h2⟩
theorem masks_ok {D:Nat → List Nat}:∀ (L:List (List Nat)) (ms:List Nat),(∀ k,k < L.length → L[k]?=some (D (ms.length + k))) → (∀ j i,((ms.getD j 0).testBit i)=true → Anc D j i) →
 ∀ j i,(((masks L ms).getD j 0).testBit i)=true → Anc D j i
 | [],ms,_,h=>h
 | ds :: r,ms,hL,h=>by
   refine masks_ok r _ ?_ ?_
   ·intro k hk
    have:=hL (k + 1) (by simp;omega)
    simpa [Nat.add_assoc,Nat.add_comm 1 k] using this
   intro j i hb
   have h0:ds=D ms.length:=by have:=hL 0 (by simp);simpa using this
   simp only [List.getD_eq_getElem?_getD] at hb
   by_cases hj:j < ms.length
   ·rw [List.getElem?_append_left hj] at hb
    exact h j i (by simpa only [List.getD_eq_getElem?_getD] using hb)
   rw [List.getElem?_append_right (by omega)] at hb
   by_cases hj':j=ms.length
   ·subst hj'
    simp only [Nat.sub_self,List.getElem?_cons_zero,Option.getD_some] at hb
    obtain ⟨d,hd,hh⟩:=maskOf_bit ds hb
    rw [h0] at hd
    rcases hh with rfl | hh
    ·exact .one hd
    exact .step hd (h d i hh)
   rw [List.getElem?_eq_none (by simp;omega)] at hb
   simp at hb
def dummy:AIns:=⟨none,none,.mkm .str⟩
def commOk (ops:Array Oper) (fs:List Nat) (l:List AIns):Bool :=
 edgesOk ops && uniqAl fs l dummy &&
 (let ms:=masks ((List.range ops.size).map (depsOf ops)) []
  (List.range ops.size).all fun j=>(List.range j).all fun i=>(ms.getD j 0).testBit i || indepF fs (l.getD i dummy) (l.getD j dummy))
theorem order_ok {call:Caller} {ops:Array Oper} {fs:List Nat} {l:List AIns} (h:commOk ops fs l=true) (hl:l.length=ops.size) (t:Nat) (f:Fr) :
 exL call ((Region.linearise .any ops t).map fun k=>l.getD k dummy) (f.fresh fs)=exL call l (f.fresh fs):=by
 simp only [commOk,Bae] at h
 obtain ⟨⟨ho,hq⟩,hc⟩:=h
 obtain ⟨h1,h2⟩:=linearise_good ho t
 have hm:=masks_ok (D:=depsOf ops) ((List.range ops.size).map (depsOf ops)) [] (fun k hk=>by
  simp only [List.length_map,List.length_range] at hk
  simp [Lgm,List.getElem?_range hk]) (fun j i hb=>by simp at hb)
 rw [reorder (fs:=fs) (D:=depsOf ops) (n:=ops.size) (X:=fun k=>l.getD k dummy) (fun m x hmx hxn hna=>by
  have:=List.all_eq_true.1 (List.all_eq_true.1 hc x (List.mem_range.2 hxn)) m (List.mem_range.2 hmx)
  simp only [Bool.or_eq_true] at this
  rcases this with hb | hb
  ·exact absurd (hm x m hb) hna
  exact hb) (fun m x d hmn hxn hd hdf hne=>by
  have:=List.all_eq_true.1 hq m (List.mem_range.2 (by omega))
  rw [show alOf (l.getD m dummy)=some d from hd] at this
  simp only [Bool.or_eq_true,Bool.not_eq_true',List.contains_eq_mem,decide_eq_false_iff_not] at this
  have:=(this.resolve_left (fun hh=>hh hdf))
  have:=List.all_eq_true.1 this x (List.mem_range.2 (by omega))
  simp only [Bool.or_eq_true,beq_iff_eq] at this
  have:=this.resolve_left hne
  intro e
  rw [e] at this
  simp at this) (fun k hk=>by
  have e:l.getD k dummy=dummy:=by rw [List.getD_eq_getElem?_getD,List.getElem?_eq_none (by omega)];rfl
  show (l.getD k dummy).d=none ∧ alOf (l.getD k dummy)=none
  rw [e]
  exact ⟨rfl,rfl⟩) (List.range ops.size) _ _ List.pairwise_lt_range (fun x hx=>List.mem_range.1 hx) h1 h2 (fun k _ d _ hdf=>fresh_of f hdf)]
 congr 1
 apply List.ext_getElem?
 intro k
 rw [Lgm]
 by_cases hk:k < ops.size
 ·rw [List.getElem?_range hk]
  simp only [Option.map_some,List.getD_eq_getElem?_getD]
  rw [List.getElem?_eq_getElem (by omega)]
  rfl
 rw [List.getElem?_eq_none (by simp;omega),List.getElem?_eq_none (by omega)]
 rfl
end Go.Sim
namespace Go.Sim
open Go
theorem Pres.trans {w w1 w2:World} {G G1 G2:Gh} (h:Pres w G G1 w1) (k:Pres w1 G1 G2 w2):Pres w G G2 w2:=by
 refine ⟨k.os.trans h.os,k.tape.trans h.tape,k.output.trans h.output,Nat.le_trans h.size k.size,?_,h.le.trans k.le,fun b hb hf=>let ⟨h1,h2⟩:=h.hid b hb hf;let ⟨k1,k2⟩:=k.hid b (Nat.lt_of_lt_of_le hb h.size) h2;⟨k1.trans h1,k2⟩⟩
 intro b hb hf
 obtain ⟨h1,h2,h3⟩:=h.free b hb hf
 obtain ⟨k1,k2,k3⟩:=k.free b (Nat.lt_of_lt_of_le hb h.size) h2
 exact ⟨k1.trans h1,k2,fun o=>(k3 o).trans (h3 o)⟩
section
variable {P:Program} {w0:World} {G0 G:Gh} {fr:Fr} {a:Act} {w w':World}
theorem RR.claim (h:RR w0 G0 G fr a w) {i:Nat} {tv:TV} (hi:i < a.tmps.size) (hv:TR G tv (a.tmps.getD i undef)):RR w0 G0 G { fr with env:=upd fr.env i (some tv) } a w:=by
 refine ⟨fun j x hx=>?_,h.loc,h.locu,h.tips,h.nt,h.wi,h.df,h.pres⟩
 simp only [Sim.upd] at hx
 split at hx
 ·rename_i e;subst e;cases hx;exact ⟨hi,hv⟩
 exact h.env j x hx
theorem Pres.out {Hout:Nat → Bool} {Gr G':Gh} {wr:World} (hO:Pres w0 G0 { Gr with H:=Hout } wr) (h:Pres wr Gr G' w) (hH:∀ b,Hout b=true → Gr.H b=true):Pres w0 G0 { G' with H:=Hout } w:=by
 refine ⟨h.os.trans hO.os,h.tape.trans hO.tape,h.output.trans hO.output,Nat.le_trans hO.size h.size,fun b hb hf=>?_,hO.le.trans ⟨h.le.K,h.le.ob,h.le.U,h.le.M⟩,fun b hb hf=>?_⟩
 ·obtain ⟨h1,h2,h3⟩:=hO.free b hb hf
  obtain ⟨k1,k2,k3⟩:=h.free b (Nat.lt_of_lt_of_le hb hO.size) h2
  exact ⟨k1.trans h1,k2,fun o=>(k3 o).trans (h3 o)⟩
 obtain ⟨h1,h2⟩:=hO.hid b hb hf
 exact ⟨(h.hid b (Nat.lt_of_lt_of_le hb hO.size) (hH b h2)).1.trans h1,h2⟩
structure Left (f:Value → Option AV) (l:List MapEntry) (L:List (Value × AV)):Prop where
 nd:(L.map (·.1)).Nodup
 ok:∀ k v,(k,v) ∈ L ↔ (∃ e ∈ l,e.key=k) ∧ f k=some v
end
end Go.Sim
namespace Go.Sim
open Go
def mG (ops:Array Oper):Option (Nat × Bool) → Option (Nat × Bool) → Bool
 | none,none=>true
 | some (s,want),some (j,want')=>((ops[j]?).bind (·.dst)) == some s && want == want'
 | _,_=>false
def mIns (P:Program) (nt:Nat) (ops:Array Oper) (o:Oper) (i:AIns):Bool :=
 i.d == o.dst && (match i.d with
  | some d=>decide (d < nt)
  | none=>true) && mG ops i.g o.guard && mOp P i.op o.op
def mInss (P:Program) (nt:Nat) (ops:Array Oper):List Oper → List AIns → Bool
 | [],[]=>true
 | o :: os,i :: is=>mIns P nt ops o i && mInss P nt ops os is
 | _,_=>false
theorem mInss_get {P:Program} {nt:Nat} {ops:Array Oper}:∀ {os:List Oper} {is:List AIns},mInss P nt ops os is=true → is.length=os.length ∧ ∀ (k:Nat) o,os[k]?=some o → ∃ i,is[k]?=some i ∧ mIns P nt ops o i=true
 | [],[],_=>⟨rfl,fun k o h=>by simp at h⟩
 | [],_ :: _,h=>by simp [mInss] at h
 | _ :: _,[],h=>by simp [mInss] at h
 | o :: os,i :: is,h=>by
   simp only [mInss,Bae] at h
   obtain ⟨h1,h2⟩:=mInss_get h.2
   refine ⟨by simp [h1],fun k o' hk=>?_⟩
   cases k with
   | zero=>simp at hk;subst hk;exact ⟨i,rfl,h.1⟩
   | succ k=>simpa using h2 k o' (by simpa using hk)
def unS:Code → Code
 | .scope c=>c
 | c=>c
def mC (P:Program) (nt:Nat):AC → Code → Bool
 | .skip,c=>(match c with
   | .skip=>true
   | .label _=>true
   | _=>false)
 | .ret,c=>(match c with
   | .ret=>true
   | _=>false)
 | .retz _ _,c=>(match c with
   | .ret=>true
   | _=>false)
 | .exit i,c=>(match c with
   | .exit j=>i == j
   | _=>false)
 | .seq a b,c=>(match c with
   | .seq x y=>mC P nt a (unS x) && mC P nt b (unS y)
   | _=>false)
 | .cond o a b,c=>(match c with
   | .cond o' x y=>mO o o' && mC P nt a x && mC P nt b y
   | _=>false)
 | .block i a,c=>(match c with
   | .block j x=>i == j && mC P nt a x
   | _=>false)
 | .loop a,c=>(match c with
   | .loop x=>mC P nt a x
   | _=>false)
 | .reg l fs _ _,c=>(match c with
   | .region _ ops draw=>mInss P nt ops ops.toList l && (!draw || commOk ops fs l)
   | _=>false)
 | .regd l _ _ _ D,c=>(match c with
   | .region _ ops draw=>mInss P nt ops ops.toList l && (edgesOk ops && D == (List.range ops.size).map (depsOf ops))
   | _=>false)
def exR:Ex → Exit → Prop
 | .norm,.normal=>True
 | .exit i,.exit j=>i=j
 | .ret,.ret=>True
 | _,_=>False
section
variable {P:Program} {w0:World} {G0:Gh} {nt:Nat} {call:Caller}
theorem wp_unS {ex:Ex} {R:Act → World → Prop} {c:Code} {a:Act} {w:World} (h:(unS c).wp P (fun e a' w'=>exR ex e ∧ R a' w') a w):c.wp P (fun e a' w'=>exR ex e ∧ R a' w') a w:=by
 cases c with
 | scope c =>
   refine wp_scope_straight (wp_mono h ?_)
   rintro e a' w' ⟨hr,k⟩
   cases e with
   | goto l=>cases ex <;> exact hr.elim
   | _=>exact ⟨hr,k⟩
 | _=>exact h
theorem put_size (a:Act) (d:Option Nat) (v:Value):(a.put d v).tmps.size=a.tmps.size:=by cases d <;> simp [Act.put]
theorem sim_opsR {ops:Array Oper} (hc:CallOK P call) (Q:Exit → Act → World → Prop) (rest0:List Nat):∀ (l:List (Nat × AIns)),(∀ p ∈ l,∃ o,ops[p.1]?=some o ∧ mIns P nt ops o p.2=true) →
 ∀ (G:Gh) (fr fr':Fr) (a:Act) (w:World),RR w0 G0 G fr a w → a.tmps.size=nt → exL call (l.map (·.2)) fr=some fr' →
  (∀ G' a' w',RR w0 G0 G' fr' a' w' → a'.tmps.size=nt → wpOps P ops Q rest0 a' w') → wpOps P ops Q (l.map (·.1) ++ rest0) a w
 | [],_,G,fr,fr',a,w,h,hs,he,hq=>by
   simp only [List.map_nil,exL,Oie] at he
   subst he
   exact hq G a w h hs
 | (k,i) :: l,hm,G,fr,fr',a,w,h,hs,he,hq=>by
  obtain ⟨o,ho,hi⟩:=hm (k,i) (List.mem_cons_self ..)
  simp only [mIns,Bae,beq_iff_eq] at hi
  obtain ⟨⟨⟨hd,hb⟩,hg⟩,hop⟩:=hi
  have hdb:∀ d,o.dst=some d → d < a.tmps.size:=by
   intro d e
   rw [hd,e] at hb
   rw [hs]
   simpa using hb
  simp only [List.map_cons,exL,Obe] at he
  obtain ⟨fr1,h1,h2⟩:=he
  have rest:∀ G' a' w',RR w0 G0 G' fr1 a' w' → a'.tmps.size=nt → wpOps P ops Q (l.map (·.1) ++ rest0) a' w':=fun G' a' w' hR hsz =>
   sim_opsR hc Q rest0 l (fun p hp=>hm p (List.mem_cons_of_mem _ hp)) G' fr1 fr' a' w' hR hsz h2 hq
  have hrun:run1 call i fr=some fr1 → o.wp P a w (wpOps P ops Q (l.map (·.1) ++ rest0)) Q:=by
   intro hr
   simp only [run1,Obe,Oie] at hr
   obtain ⟨⟨tv,frx⟩,ha,rfl⟩:=hr
   have hgood:=sim_op hc h o i.op hop ha
   unfold Oper.wp
   generalize (execOp a.eval o).run P w=r at hgood ⊢
   cases r with
   | halt hh w'=>exact hgood.elim
   | ok nx w' =>
     cases nx with
     | value v =>
       obtain ⟨G',hR,hv⟩:=hgood
       exact rest G' _ w' (by simp only [hd];exact hR.put hdb hv) (by rw [put_size];exact hs)
     | skip =>
       obtain ⟨rfl,G',hR⟩:=hgood
       exact rest G' _ w' (by simp only [hd];exact hR.put hdb (fun x hx=>by cases hx)) (by rw [put_size];exact hs)
     | defer d =>
       obtain ⟨rfl,G',hR⟩:=hgood
       exact rest G' _ w' (by simp only [hd];exact hR.put (a:={ a with defers:=d :: a.defers }) hdb (fun x hx=>by cases hx)) (by rw [put_size];exact hs)
     | enter f args =>
       refine Calls.mono hgood ?_
       rintro e w'' ⟨v,rfl,G',hR,hv⟩
       exact rest G' _ w'' (by simp only [hd];exact hR.put hdb hv) (by rw [put_size];exact hs)
     | _=>exact hgood.elim
  simp only [List.map_cons,List.cons_append,wpOps,ho]
  unfold ins at h1
  cases hig:i.g with
  | none =>
    rw [hig] at h1 hg
    have hw:Region.wanted o (yielded ops a.tmps)=true:=by
     cases hog:o.guard with
     | none=>simp [Region.wanted,hog]
     | some p=>rw [hog] at hg;simp [mG] at hg
    rw [if_pos hw]
    exact .inl (hrun h1)
  | some p =>
    obtain ⟨s,want⟩:=p
    rw [hig] at h1 hg
    cases hog:o.guard with
    | none=>rw [hog] at hg;simp [mG] at hg
    | some q =>
      obtain ⟨j,want'⟩:=q
      rw [hog] at hg
      simp only [mG,Bae,beq_iff_eq] at hg
      obtain ⟨hj,rfl⟩:=hg
      simp only [Obe] at h1
      obtain ⟨tv,hv,y0,hbv,h1⟩:=h1
      have he:=h.env s _ hv
      have hy:yielded ops a.tmps j=y0:=by
       have e1:a.tmps[s]?=some (a.tmps.getD s undef):=by rw [Array.getElem?_eq_getElem he.1];exact congrArg some (getD_eq he.1).symm
       have e2:=he.2
       unfold yielded
       rw [hj]
       cases tv with
       | und =>
         simp only [guardOf,Oie] at hbv
         subst hbv
         have e3:a.tmps.getD s undef=undef:=e2
         rw [e3] at e1
         simp [e1,undef]
       | val v =>
         cases v with
         | lit q =>
           cases q <;> simp only [guardOf,reduceCtorEq,Oie] at hbv
           subst hbv
           simp only [TR,VR] at e2
           rw [e2.1] at e1
           simp [e1]
         | _=>simp [guardOf] at hbv
       | _=>simp [guardOf] at hbv
      have hw:Region.wanted o (yielded ops a.tmps)=decide (y0=some want):=by
       simp only [Region.wanted,hog,hy]
       rw [Bool.eq_iff_iff]
       simp
      split at h1
      ·rename_i e
       rw [if_pos (by rw [hw];simpa using e)]
       exact .inl (hrun h1)
      rename_i e
      simp only [Oie] at h1
      subst h1
      rw [if_neg (by rw [hw];simpa using e)]
      exact rest G _ w (by rw [hd];exact h.put hdb (fun x hx=>by cases hx;exact rfl)) (by rw [put_size];exact hs)
theorem sim_ops {ops:Array Oper} (hc:CallOK P call) (Q:Exit → Act → World → Prop) (l:List (Nat × AIns)) (hm:∀ p ∈ l,∃ o,ops[p.1]?=some o ∧ mIns P nt ops o p.2=true)
 (G:Gh) (fr fr':Fr) (a:Act) (w:World) (h:RR w0 G0 G fr a w) (hs:a.tmps.size=nt) (he:exL call (l.map (·.2)) fr=some fr')
   (hq:∀ G' a' w',RR w0 G0 G' fr' a' w' → a'.tmps.size=nt → Q .normal a' w'):wpOps P ops Q (l.map (·.1)) a w:=by
 have:=sim_opsR hc Q [] l hm G fr fr' a w h hs he hq
 rwa [List.append_nil] at this
theorem zip_range (l:List AIns) (n:Nat) (hl:l.length=n):(l.zipIdx.map fun p=>(p.2,p.1)).map (·.1)=List.range n ∧ (l.zipIdx.map fun p=>(p.2,p.1)).map (·.2)=l:=by
 constructor
 ·rw [List.map_map]
  apply List.ext_getElem?
  intro k
  rw [Lgm,List.getElem?_zipIdx]
  by_cases hk:k < n
  ·rw [List.getElem?_range hk,List.getElem?_eq_getElem (by omega)];simp
  rw [List.getElem?_eq_none (l:=List.range n) (by simp;omega),List.getElem?_eq_none (by omega)];rfl
 rw [List.map_map]
 apply List.ext_getElem?
 intro k
 rw [Lgm,List.getElem?_zipIdx]
 cases l[k]? <;> rfl
theorem good_ready {ops:Array Oper} (ho:edgesOk ops=true):∀ (π:List Nat) (seen:Nat → Prop) (done:List Nat),GoodS (depsOf ops) (List.range ops.size) seen π → (∀ y,seen y → y ∈ done) → Ready ((List.range ops.size).map (depsOf ops)) done π
 | [],_,_,_,_=>trivial
 | x :: π,seen,done,h,hs=>by
   refine ⟨fun d hd=>?_,good_ready ho π _ _ h.2 fun y hy=>?_⟩
   ·rw [List.getD_eq_getElem?_getD,Lgm] at hd
    by_cases hx:x < ops.size
    ·rw [List.getElem?_range hx] at hd
     simp only [Option.map_some,Option.getD_some] at hd
     have hlt:d < x:=Odt (List.all_eq_true.1 (List.all_eq_true.1 ho x (List.mem_range.2 hx)) d hd)
     exact hs d (h.1 d (.one hd) (List.mem_range.2 (by omega)))
    rw [List.getElem?_eq_none (by simpa using hx)] at hd
    simp at hd
   rcases hy with rfl | hy
   ·exact List.mem_cons_self ..
   exact List.mem_cons_of_mem _ (hs y hy)
theorem sim_region (hmix:P.follows .mixedOrders=true) (hc:CallOK P call) {l:List AIns} {fs:List Nat} {id:Nat} {ops:Array Oper} {draw:Bool} (hm:mInss P nt ops ops.toList l=true) (hd:draw=true → edgesOk ops=true)
 {G:Gh} {fr fr':Fr} {a:Act} {w:World} (h0:RR w0 G0 G fr a w) (hs:a.tmps.size=nt) (he:exL call l (fr.fresh fs)=some fr') (ho:draw=true → l.length=ops.size → ∀ t,exL call ((Region.linearise .any ops t).map fun k=>l.getD k dummy) (fr.fresh fs)=some fr') {Q:Exit → Act → World → Prop}
 (hq:∀ G' a' w',RR w0 G0 G' fr' a' w' → a'.tmps.size=nt → Q .normal a' w'):(Code.region id ops draw).wp P Q a w:=by
 have h:=h0.fresh fs
 obtain ⟨hl,hg⟩:=mInss_get hm
 have hl':l.length=ops.size:=by simpa using hl
 have hget:∀ (k:Nat) i,l[k]?=some i → ∃ o,ops[k]?=some o ∧ mIns P nt ops o i=true:=by
  intro k i hk
  have hkl:k < l.length:=by
   rcases Nat.lt_or_ge k l.length with h' | h'
   ·exact h'
   rw [List.getElem?_eq_none h'] at hk;cases hk
  have ho:ops.toList[k]?=some ops[k]:=by simp [Array.getElem?_eq_getElem (show k < ops.size by omega)]
  obtain ⟨i',h1,h2⟩:=hg k _ ho
  rw [hk] at h1
  cases h1
  exact ⟨_,Array.getElem?_eq_getElem (by omega),h2⟩
 cases draw with
 | false =>
   refine wp_region ?_
   obtain ⟨z1,z2⟩:=zip_range l ops.size hl'
   have:=sim_ops hc Q (l.zipIdx.map fun p=>(p.2,p.1)) (fun p hp=>by
    obtain ⟨q,hq',rfl⟩:=List.mem_map.1 hp
    obtain ⟨i,k⟩:=q
    exact hget k i (by simpa using List.mk_mem_zipIdx_iff_getElem?.1 hq')) G _ fr' a w h hs (by rw [z2];exact he) hq
   rw [z1] at this
   exact this
 | true =>
   refine wp_region_draw fun t=>?_
   have hsch:Region.schedule (P.follows .mixedOrders) ops t=Region.linearise .any ops t:=by simp [Region.schedule,hmix]
   rw [hsch]
   have hord:=ho rfl hl' t
   have hp:=(linearise_good (hd rfl) t).1
   have hR:RR w0 G0 G (fr.fresh fs) a { w with drawn:=w.drawn + 1 }:=h.draws rfl rfl rfl rfl
   have:=sim_ops hc Q ((Region.linearise .any ops t).map fun k=>(k,l.getD k dummy)) (fun p hp'=>by
    obtain ⟨k,hk,rfl⟩:=List.mem_map.1 hp'
    have hk':=List.mem_range.1 (hp.subset hk)
    refine hget k _ ?_
    rw [List.getD_eq_getElem?_getD,List.getElem?_eq_getElem (by omega)]
    rfl) G _ fr' a _ hR hs (by rw [List.map_map];exact hord) hq
   rw [List.map_map] at this
   have e:(Prod.fst ∘ fun k=>(k,l.getD k dummy))=fun k=>k:=rfl
   rw [e,List.map_id'] at this
   exact this
theorem least {p:Nat → Prop}:∀ n,p n → ∃ m,p m ∧ ∀ k,p k → m ≤ k:=by
 intro n
 induction n using Nat.strongRecOn with
 | _ n ih =>
   intro hn
   by_cases h:∃ m,m < n ∧ p m
   ·obtain ⟨m,h1,h2⟩:=h
    exact ih m h1 h2
   refine ⟨n,hn,fun k hk=>?_⟩
   rcases Nat.lt_or_ge k n with h' | h'
   ·exact absurd ⟨k,h',hk⟩ h
   exact h'
open Classical in
noncomputable def leastOf (p:Nat → Prop):Nat:=if h:∃ m,p m ∧ ∀ k,p k → m ≤ k then Classical.choose h else 0
theorem leastOf_spec {p:Nat → Prop} {n:Nat} (h:p n):p (leastOf p) ∧ ∀ k,p k → leastOf p ≤ k:=by
 have hx:=least n h
 unfold leastOf
 rw [dif_pos hx]
 exact Classical.choose_spec hx
theorem wp_loop_fuel {c:Code} {Q:Exit → Act → World → Prop} {a:Act} {w:World} (I:Nat → Act → World → Prop) {n:Nat} (h0:I n a w)
 (round:∀ n a w,I n a w → c.wp P (Exit.then (fun a' w'=>∃ m,m < n ∧ I m a' w') Q) a w):(Code.loop c).wp P Q a w:=by
 refine wp_loop (fun a w=>∃ n,I n a w) (fun a w=>leastOf fun n=>I n a w) ⟨n,h0⟩ ?_
 rintro a w ⟨n,hn⟩
 have hl:=leastOf_spec (p:=fun n=>I n a w) hn
 refine wp_mono (round _ a w hl.1) ?_
 intro e a' w' hq
 cases e with
 | normal =>
   obtain ⟨m,hlt,hm⟩:=hq
   exact ⟨⟨m,hm⟩,Nat.lt_of_le_of_lt ((leastOf_spec (p:=fun n=>I n a' w') hm).2 m hm) hlt⟩
 | _=>exact hq
structure NextOps (nt it t c:Nat) (ops:Array Oper) (o1 o2:Oper):Prop where
 ops:ops=#[o1,o2]
 op1:o1.op=.next (.tmp it) false
 d1:o1.dst=some t
 g1:o1.guard=none
 op2:o2.op=.extract (.tmp t) 0
 d2:o2.dst=some c
 g2:o2.guard=none
 lt1:t < nt
 lt2:c < nt
 ne1:it ≠ t
 ne2:it ≠ c
theorem sim_code (hmix:P.follows .mixedOrders=true) (hc:CallOK P call) {lp:Nat}:∀ (w0:World) (G0:Gh) (ac:AC) (c:Code),mC P nt ac c=true → ∀ (G:Gh) (fr fr':Fr) (a:Act) (w:World) (ex:Ex),
 RR w0 G0 G fr a w → a.tmps.size=nt → aexec call lp ac fr=some (ex,fr') → c.wp P (fun e a' w'=>exR ex e ∧ ∃ G',RR w0 G0 G' fr' a' w' ∧ a'.tmps.size=nt) a w
 | _,_,.skip,c,hm,G,fr,fr',a,w,ex,h,hs,he=>by
   simp only [aexec,Oie,Pie] at he
   obtain ⟨rfl,rfl⟩:=he
   simp only [mC] at hm
   split at hm
   ·exact wp_skip ⟨trivial,G,h,hs⟩
   ·exact wp_label ⟨trivial,G,h,hs⟩
   cases hm
 | _,_,.ret,c,hm,G,fr,fr',a,w,ex,h,hs,he=>by
   simp only [aexec,Oie,Pie] at he
   obtain ⟨rfl,rfl⟩:=he
   simp only [mC] at hm
   split at hm
   ·exact wp_ret ⟨trivial,G,h,hs⟩
   cases hm
 | _,_,.retz n d,c,hm,G,fr,fr',a,w,ex,h,hs,he=>by
   simp only [aexec,Obe,Oie,Pie] at he
   obtain ⟨fr1,h1,rfl,rfl⟩:=he
   simp only [mC] at hm
   split at hm
   ·obtain ⟨G',hR⟩:=sim_retz h h1
    exact wp_ret ⟨trivial,G',hR,hs⟩
   cases hm
 | _,_,.exit i,c,hm,G,fr,fr',a,w,ex,h,hs,he=>by
   simp only [aexec,Oie,Pie] at he
   obtain ⟨rfl,rfl⟩:=he
   simp only [mC] at hm
   split at hm
   ·simp only [beq_iff_eq] at hm
    exact wp_exit ⟨hm,G,h,hs⟩
   cases hm
 | _,_,.seq x y,c,hm,G,fr,fr',a,w,ex,h,hs,he=>by
   simp only [aexec,Obe] at he
   obtain ⟨⟨e1,fr1⟩,h1,h2⟩:=he
   simp only [mC] at hm
   split at hm
   ·simp only [Bae] at hm
    refine wp_seq (wp_mono (wp_unS (sim_code hmix hc _ _ x _ hm.1 G fr fr1 a w e1 h hs h1)) ?_)
    rintro e a' w' ⟨hr,G',hR,hs'⟩
    cases e1 with
    | norm =>
      cases e <;> simp only [exR] at hr
      exact wp_unS (sim_code hmix hc _ _ y _ hm.2 G' fr1 fr' a' w' ex hR hs' h2)
    | exit i =>
      simp only [Oie,Pie] at h2
      obtain ⟨rfl,rfl⟩:=h2
      cases e <;> first | exact hr.elim | exact ⟨hr,G',hR,hs'⟩
    | ret =>
      simp only [Oie,Pie] at h2
      obtain ⟨rfl,rfl⟩:=h2
      cases e <;> first | exact hr.elim | exact ⟨hr,G',hR,hs'⟩
   cases hm
 | _,_,.cond o x y,c,hm,G,fr,fr',a,w,ex,h,hs,he=>by
   simp only [aexec,Obe] at he
   obtain ⟨v,hv,b,hb,h2⟩:=he
   simp only [mC] at hm
   split at hm
   ·simp only [Bae] at hm
    have hbool:=asB_R (h.evV hm.1.1 hv) hb
    refine wp_cond hbool ?_
    cases b with
    | true=>exact sim_code hmix hc _ _ x _ hm.1.2 G fr fr' a w ex h hs (by simpa using h2)
    | false=>exact sim_code hmix hc _ _ y _ hm.2 G fr fr' a w ex h hs (by simpa using h2)
   cases hm
 | _,_,.block i x,c,hm,G,fr,fr',a,w,ex,h,hs,he=>by
   simp only [aexec,Obe] at he
   obtain ⟨⟨e1,fr1⟩,h1,h2⟩:=he
   simp only [mC] at hm
   split at hm
   ·rename_i j y
    simp only [Bae,beq_iff_eq] at hm
    obtain ⟨rfl,hm⟩:=hm
    refine wp_block (wp_mono (sim_code hmix hc _ _ x _ hm G fr fr1 a w e1 h hs h1) ?_)
    rintro e a' w' ⟨hr,G',hR,hs'⟩
    cases e1 with
    | norm =>
      simp only [Oie,Pie] at h2
      obtain ⟨rfl,rfl⟩:=h2
      cases e <;> first | exact hr.elim | exact ⟨hr,G',hR,hs'⟩
    | ret =>
      simp only [Oie,Pie] at h2
      obtain ⟨rfl,rfl⟩:=h2
      cases e <;> first | exact hr.elim | exact ⟨hr,G',hR,hs'⟩
    | exit k =>
      cases e <;> simp only [exR] at hr
      subst hr
      simp only at h2
      split at h2
      ·rename_i hk
       simp only [Oie,Pie] at h2
       obtain ⟨rfl,rfl⟩:=h2
       simp only [Exit.inBlock]
       rw [if_pos hk]
       exact ⟨trivial,G',hR,hs'⟩
      rename_i hk
      simp only [Oie,Pie] at h2
      obtain ⟨rfl,rfl⟩:=h2
      simp only [Exit.inBlock]
      rw [if_neg hk]
      exact ⟨rfl,G',hR,hs'⟩
   cases hm
 | w0,G0,.loop x,c,hm,G,fr,fr',a,w,ex,h,hs,he=>by
   simp only [aexec] at he
   simp only [mC] at hm
   split at hm
   ·rename_i y
    refine wp_loop_fuel (fun n a w=>∃ G fr,RR w0 G0 G fr a w ∧ a.tmps.size=nt ∧ loopN (aexec call lp x) n fr=some (ex,fr')) ⟨G,fr,h,hs,he⟩ ?_
    rintro n a w ⟨G,fr,h,hs,he⟩
    cases n with
    | zero=>simp [loopN] at he
    | succ n =>
      simp only [loopN,Obe] at he
      obtain ⟨⟨e1,fr1⟩,h1,h2⟩:=he
      refine wp_mono (sim_code hmix hc _ _ x _ hm G fr fr1 a w e1 h hs h1) ?_
      rintro e a' w' ⟨hr,G',hR,hs'⟩
      cases e1 with
      | norm =>
        cases e <;> simp only [exR] at hr
        exact ⟨n,by omega,G',fr1,hR,hs',h2⟩
      | exit i =>
        simp only [Oie,Pie] at h2
        obtain ⟨rfl,rfl⟩:=h2
        cases e <;> first | exact hr.elim | exact ⟨hr,G',hR,hs'⟩
      | ret =>
        simp only [Oie,Pie] at h2
        obtain ⟨rfl,rfl⟩:=h2
        cases e <;> first | exact hr.elim | exact ⟨hr,G',hR,hs'⟩
   cases hm
 | _,_,.reg l fs k kl,c,hm,G,fr,fr',a,w,ex,h,hs,he=>by
   simp only [aexec,Obe,Oie,Pie] at he
   obtain ⟨fr1,h1,rfl,rfl⟩:=he
   simp only [mC] at hm
   split at hm
   ·rename_i id ops draw
    simp only [Bae,Bool.or_eq_true,Bool.not_eq_true'] at hm
    have hcm:draw=true → commOk ops fs l=true:=fun e=>hm.2.resolve_left (by rw [e];simp)
    exact sim_region hmix hc (fs:=fs) hm.1 (fun e=>by have:=hcm e;simp only [commOk,Bae] at this;exact this.1.1) h hs h1 (fun e hl t=>(order_ok (call:=call) (hcm e) hl t fr).trans h1) fun G' a' w' hR hs'=>⟨trivial,G',hR.keep k kl,hs'⟩
   cases hm
 | _,_,.regd l fs k kl D,c,hm,G,fr,fr',a,w,ex,h,hs,he=>by
   simp only [aexec,Obe] at he
   obtain ⟨fr1,h1,he⟩:=he
   split at he
   ·rename_i hany
    simp only [Oie,Pie] at he
    obtain ⟨rfl,rfl⟩:=he
    simp only [mC] at hm
    split at hm
    ·rename_i id ops draw
     simp only [Bae,beq_iff_eq] at hm
     obtain ⟨hm1,hm2,rfl⟩:=hm
     exact sim_region hmix hc (fs:=fs) hm1 (fun _=>hm2) h hs h1 (fun _ hl t=>by
      obtain ⟨g1,g2⟩:=linearise_good hm2 t
      exact hany _ (by rw [hl];exact g1) (good_ready hm2 _ _ _ g2 (fun y hy=>hy.elim))) fun G' a' w' hR hs'=>⟨trivial,G',hR.keep k kl,hs'⟩
    cases hm
   cases he
def mF (P:Program) (f:Nat) (fn:AFun):Bool :=
 match P.funcs[f]? with
 | some g=>(match g.body with
   | some c=>mC P g.ntmps fn.body c && decide (fn.np ≤ g.ntmps) && decide (g.name ≠ "runtime.NumGoroutine") && mRes fn.res g.results.toList
   | none=>false)
 | none=>false
where
 mRes:List ARes → List ResultVar → Bool
 | [],[]=>true
 | t :: ts,r :: rs=>(match t,r with
   | .t t,.tmp u=>t == u
   | .cell n c,.cell c' ty=>c == c' && mN P ty n
   | _,_=>false) && mRes ts rs
 | _,_=>false
theorem results_run {g:Func} {fr:Fr} {a:Act} {w:World} {G:Gh} (h:RR w0 G0 G fr a w):∀ (ts:List ARes) (rs:List ResultVar) (l:List AV),mF.mRes P ts rs=true → evRs fr ts=some l →
 ∃ vs,(rs.mapM (fun x:ResultVar=>match x with
  | .tmp t=>(pure (a.tmps.getD t undef):Sem Value)
  | .cell c t=>do loadVar t (← asAddr (a.tmps.getD c undef)))).run P w=.ok vs w ∧ VRs G l vs
 | [],[],l,_,he=>by
   simp only [evRs,Oie] at he
   subst he
   exact ⟨[],by simp,rfl⟩
 | [],_ :: _,l,hm,he=>by simp [mF.mRes] at hm
 | _ :: _,[],l,hm,he=>by simp [mF.mRes] at hm
 | t :: ts,r :: rs,l,hm,he=>by
   simp only [mF.mRes,Bae] at hm
   simp only [evRs,Obe,Oie] at he
   obtain ⟨v,hv,l',hl',rfl⟩:=he
   obtain ⟨vs,h1,h2⟩:=results_run (g:=g) h ts rs l' hm.2 hl'
   have hm1:=hm.1
   split at hm1
   ·rename_i t u
    simp only [beq_iff_eq] at hm1
    subst hm1
    refine ⟨a.tmps.getD t undef :: vs,?_,by simp only [VRs];exact ⟨_,_,rfl,(h.env t _ (evV_some hv)).2,h2⟩⟩
    rw [List.mapM_cons]
    simp only [Sem.run_bind,Sem.run_pure,Result.andThen_ok]
    erw [h1]
    rfl
   ·rename_i n c c' ty
    simp only [Bae,beq_iff_eq] at hm1
    obtain ⟨rfl,hn⟩:=hm1
    simp only [evR,Obe] at hv
    obtain ⟨p,hp,hv⟩:=hv
    obtain ⟨u,k1,k2⟩:=sim_ld (P:=P) h (x:=.t c) (y:=.tmp c) (by simp [mO]) hn (hf:=true) (by exact hp) hv
    have k3:(do loadVar ty (← asAddr (a.tmps.getD c undef)):Sem Value).run P w=.ok u w:=by
     have e:a.eval (.tmp c)=a.tmps.getD c undef:=rfl
     rw [e] at k1
     revert k1
     cases a.tmps.getD c undef with
     | pointer q=>cases q with
       | none=>intro k1;simp [Instr.loadAt,Instr.sureAddr] at k1
       | some q=>intro k1;simpa [Instr.loadAt,Instr.sureAddr,asAddr] using k1
     | _=>intro k1;simp [Instr.loadAt,Instr.sureAddr] at k1
    refine ⟨u :: vs,?_,by simp only [VRs];exact ⟨_,_,rfl,k2,h2⟩⟩
    rw [List.mapM_cons]
    simp only [Sem.run_bind] at k3 ⊢
    rw [k3]
    simp only [Result.andThen_ok]
    erw [h1]
    rfl
   cases hm1
theorem results_ok {g:Func} {fr:Fr} {a:Act} {w:World} {G:Gh} (h:RR w0 G0 G fr a w) {ts:List ARes} {l:List AV} (hm:mF.mRes P ts g.results.toList=true) (he:evRs fr ts=some l) :
 ∃ vs,(results g a.tmps).run P w=.ok (retV vs) w ∧ VRs G l vs:=by
 obtain ⟨vs,h1,h2⟩:=results_run (P:=P) (g:=g) h ts g.results.toList l hm he
 refine ⟨vs,?_,h2⟩
 unfold results
 rw [Array.mapM_eq_mapM_toList]
 simp only [Sem.run_bind,Sem.run_map]
 erw [h1]
 simp only [Result.andThen_ok,Sem.run_pure]
 congr 1
 cases vs with
 | nil=>rfl
 | cons v r =>
   cases r with
   | nil=>rfl
   | cons v2 r=>simp [retV]
end
end Go.Sim
namespace Go.Sim
open Go
def Post (G:Gh) (w:World) (s':Sg) (res:List AV) (e:Ending) (w':World):Prop :=
 ∃ l G',e=.returned (retV l) ∧ WI G' s' w' ∧ Base G' ∧ VRs G' res l ∧ AV.nts res=true ∧ Pres w G G' w'
def CallDOK (P:Program) (call:Caller):Prop :=
 ∀ f args s res s',call f args s=some (res,s') → ∀ G w (vs:List Value),WI G s w → Base G → VRs G args vs → AV.nts args=true →
  Enters P f ∧ CallsD P f vs.toArray .returning w fun e u w'=>u=.returning ∧ Post G w s' res e w'
theorem Pres.to_base {w w':World} {G G':Gh} (h:Pres w G G' w'):Pres w G G'.base w':=by
 refine ⟨h.os,h.tape,h.output,h.size,?_,h.le.trans base_le,h.hid⟩
 intro b hb hf
 obtain ⟨h1,h2,h3⟩:=h.free b hb hf
 exact ⟨h1,by rw [base_ow,h2],h3⟩
section
variable {P:Program} {nt:Nat} {call callD:Caller}
theorem RR.start {G:Gh} {w:World} {s:Sg} {args:List AV} {vs:List Value} {n:Nat} (hw:WI G s w) (hB:Base G) (hv:VRs G args vs) (hn:args.length ≤ n) :
 RR w G G (Fr.start args s) { tmps:=vs.toArray ++ Array.replicate (n - vs.toArray.size) undef,defers:=[] } w ∧ (vs.toArray ++ Array.replicate (n - vs.toArray.size) undef).size=n:=by
 have hl:=VRs_length hv
 refine ⟨⟨?_,fun i cs h=>(by cases h),fun i b b' h=>absurd h (hB.loc b i),fun t h=>(by cases h),fun t x h=>(by rw [hB.T t] at h;cases h),hw,rfl,Pres.refl w G⟩,by simp;omega⟩
 intro i tv h
 simp only [Fr.start] at h
 cases ha:args[i]? with
 | none=>rw [ha] at h;cases h
 | some av =>
   rw [ha] at h
   simp only [Option.map_some,Oie] at h
   subst h
   obtain ⟨v,h1,h2⟩:=VRs_get hv i av ha
   have hil:i < vs.length:=by
    rcases Nat.lt_or_ge i vs.length with h' | h'
    ·exact h'
    rw [List.getElem?_eq_none h'] at h1;cases h1
   have hs:i < (vs.toArray ++ Array.replicate (n - vs.toArray.size) undef).size:=by simp;omega
   refine ⟨hs,?_⟩
   rw [getD_eq hs,Array.getElem_append_left (by simpa using hil)]
   rw [List.getElem?_eq_getElem hil] at h1
   have:vs[i]=v:=Option.some.inj h1
   show VR G av _
   simp only [List.getElem_toArray,this]
   exact h2
theorem leaves_ok (hD:CallDOK P callD) {fn:Func} {tmps:Array Value} {R:Ending → World → Prop}:∀ (df:List (Nat × List AV)) (ds:List Deferred) (s s':Sg) (w:World) (G:Gh),
 DR G df ds → runD callD df s=some s' → WI G s w → Base G →
 (∀ G' w',WI G' s' w' → Base G' → Pres w G G' w' → ∃ v,(results fn tmps).run P w'=.ok v w' ∧ R (.returned v) w') → Leaves P fn tmps R ds .returning w
 | [],ds,s,s',w,G,hd,hr,hw,hB,hR=>by
   simp only [DR] at hd
   subst hd
   simp only [runD,Oie] at hr
   subst hr
   exact hR G w hw hB (Pres.refl w G)
 | (f,as) :: r,ds,s,s',w,G,hd,hr,hw,hB,hR=>by
  obtain ⟨d,ds',cap,rfl,ht,hv,hn,hd'⟩:=hd
  simp only [runD,Obe] at hr
  obtain ⟨⟨res,s1⟩,h1,h2⟩:=hr
  obtain ⟨hen,hcalls⟩:=hD f as s res s1 h1 G w _ hw hB hv hn
  refine ⟨by simp,.func f,cap,f,(d.args ++ cap).toList.toArray,ht,?_,hcalls.mono ?_⟩
  ·rw [ht]
   simp only [invoke,Array.toArray_toList]
   exact run_callFunc hen
  rintro e u' w' ⟨rfl,l,G',rfl,q1,q2,q3,q4,q5⟩
  exact leaves_ok hD r ds' s1 s' w' G' (DR_mono q5.le _ _ hd') h2 q1 q2 fun G'' w'' r1 r2 r3=>hR G'' w'' r1 r2 (q5.trans r3)
theorem mF_inv {f:Nat} {fn:AFun} (h:mF P f fn=true):∃ g c,P.funcs[f]?=some g ∧ g.body=some c ∧ mC P g.ntmps fn.body c=true ∧ fn.np ≤ g.ntmps ∧ g.name ≠ "runtime.NumGoroutine" ∧ mF.mRes P fn.res g.results.toList=true:=by
 unfold mF at h
 split at h
 ·rename_i g hg
  split at h
  ·rename_i c hc
   simp only [Bae,Dte] at h
   exact ⟨g,c,hg,hc,h.1.1.1,h.1.1.2,h.1.2,h.2⟩
  cases h
 cases h
theorem fn_ok (hmix:P.follows .mixedOrders=true) (hc:CallOK P call) (hD:CallDOK P callD) {lp:Nat} {f:Nat} {fn:AFun} (hm:mF P f fn=true) {args:List AV} {s s':Sg} {res:List AV}
 (he:runFn call callD lp fn args s=some (res,s')) {G:Gh} {w:World} {vs:List Value} (hw:WI G s w) (hB:Base G) (hv:VRs G args vs) :
 Enters P f ∧ Calls P f vs.toArray w (Post G w s' res):=by
 obtain ⟨g,c,h1,h2,h3,h4,h5,h6⟩:=mF_inv hm
 refine ⟨⟨g,h1,by rw [h2];rfl,h5⟩,?_⟩
 unfold runFn at he
 split at he
 ·rename_i hlen
  simp only [Obe] at he
  obtain ⟨⟨ex,fr⟩,ha,he⟩:=he
  obtain ⟨hR0,hsz⟩:=RR.start (n:=g.ntmps) hw hB hv (by omega)
  refine calls_of_wp_defers h1 h2 (wp_mono (sim_code hmix hc _ _ fn.body c h3 G _ fr _ w ex hR0 hsz ha) ?_)
  rintro e a' w' ⟨hx,G',hR,hs⟩
  have hfin:ex ≠ .norm ∧ ex ≠ .ret ∨ ∃ s1,runD callD fr.df fr.sg=some s1 ∧ ∃ l,evRs { fr with sg:=s1 } fn.res=some l ∧ res=AV.ers l ∧ s'=s1:=by
   cases ex with
   | exit i=>exact .inl ⟨by simp,by simp⟩
   | _ =>
     simp only [Obe,Oie,Pie] at he
     obtain ⟨s1,e1,l,e2,e3,e4⟩:=he
     exact .inr ⟨s1,e1,l,e2,e3.symm,e4.symm⟩
  rcases hfin with ⟨hn1,hn2⟩ | ⟨s1,r1,l,r2,rfl,rfl⟩
  ·cases ex with
   | exit i=>cases he
   | norm=>exact absurd rfl hn1
   | ret=>exact absurd rfl hn2
  have key:Leaves P g a'.tmps (Post G w s' (AV.ers l)) a'.defers .returning w':=by
   refine leaves_ok hD fr.df a'.defers fr.sg s' w' G'.base (DR_mono base_le _ _ hR.df) r1 hR.wi.base base_Base ?_
   intro G'' w'' q1 q2 q3
   obtain ⟨G2,hR2,_,_⟩:=hR.back q1 q2 q3
   obtain ⟨vs',k1,k2⟩:=results_ok (P:=P) hR2 h6 r2
   exact ⟨retV vs',k1,vs',G2.base,rfl,hR2.wi.base,base_Base,VRs_mono' base_le _ _ (.inr (AV.nts_ers l)) (VRs_er _ _ k2),AV.nts_ers l,hR2.pres.to_base⟩
  cases ex with
  | exit i=>cases he
  | norm=>cases e <;> first | exact hx.elim | exact key
  | ret=>cases e <;> first | exact hx.elim | exact key
 cases he
theorem fnD_ok (hmix:P.follows .mixedOrders=true) (hc:CallOK P call) {lp:Nat} {f:Nat} {fn:AFun} (hm:mF P f fn=true) {args:List AV} {s s':Sg} {res:List AV}
 (he:runFnD call lp fn args s=some (res,s')) {G:Gh} {w:World} {vs:List Value} (hw:WI G s w) (hB:Base G) (hv:VRs G args vs) :
 Enters P f ∧ CallsD P f vs.toArray .returning w fun e u w'=>u=.returning ∧ Post G w s' res e w':=by
 obtain ⟨g,c,h1,h2,h3,h4,h5,h6⟩:=mF_inv hm
 refine ⟨⟨g,h1,by rw [h2];rfl,h5⟩,?_⟩
 unfold runFnD at he
 split at he
 ·rename_i hlen
  simp only [Obe] at he
  obtain ⟨⟨ex,fr⟩,ha,he⟩:=he
  obtain ⟨hR0,hsz⟩:=RR.start (n:=g.ntmps) hw hB hv (by omega)
  refine callsD_of_wp h1 h2 (wp_mono (sim_code hmix hc _ _ fn.body c h3 G _ fr _ w ex hR0 hsz ha) ?_)
  rintro e a' w' ⟨hx,G',hR,hs⟩
  have hfin:(ex=.norm ∨ ex=.ret) ∧ fr.df=[] ∧ ∃ l,evRs fr fn.res=some l ∧ res=AV.ers l ∧ s'=fr.sg:=by
   simp only at he
   cases ex with
   | exit i=>simp at he
   | _ =>
     cases hdf:fr.df with
     | cons x y=>rw [hdf] at he;simp at he
     | nil =>
       rw [hdf] at he
       simp only [Obe,Oie,Pie] at he
       obtain ⟨l,e2,e3,e4⟩:=he
       exact ⟨by simp,rfl,l,e2,e3.symm,e4.symm⟩
  obtain ⟨hex,hdf,l,r2,rfl,rfl⟩:=hfin
  have hd0:a'.defers=[]:=by have:=hR.df;rw [hdf] at this;exact this
  have key:a'.defers=[] ∧ ∃ v,(results g a'.tmps).run P w'=.ok v w' ∧ Post G w fr.sg (AV.ers l) (.returned v) w':=by
   obtain ⟨vs',k1,k2⟩:=results_ok (P:=P) hR h6 r2
   exact ⟨hd0,retV vs',k1,vs',G'.base,rfl,hR.wi.base,base_Base,VRs_mono' base_le _ _ (.inr (AV.nts_ers l)) (VRs_er _ _ k2),AV.nts_ers l,hR.pres.to_base⟩
  rcases hex with rfl | rfl
  ·cases e <;> first | exact hx.elim | exact key
  cases e <;> first | exact hx.elim | exact key
 cases he
def OvOK (P:Program) (f:Nat) (g:List AV → Sg → Option (List AV × Sg)):Prop :=
 ∀ args s res s',g args s=some (res,s') → ∀ G w (vs:List Value),WI G s w → Base G → VRs G args vs → AV.nts args=true → Enters P f ∧ Calls P f vs.toArray w (Post G w s' res)
def DvOK (P:Program) (f np:Nat):Prop :=
 ∀ args G s w (vs:List Value),args.length=np → WI G s w → Base G → VRs G args vs → AV.nts args=true →
  Enters P f ∧ CallsD P f vs.toArray .returning w fun e u w'=>u=.returning ∧ Post G w s [] e w'
structure PgOK (P:Program) (p:Pg):Prop where
 mix:P.follows .mixedOrders=true
 fn:∀ f fn,p.fn f=some fn → mF P f fn=true ∨ (p.ov f=some (fun _ _=>none) ∧ fn=⟨fn.np,.ret,[]⟩ ∧ DvOK P f fn.np)
 ov:∀ f g,p.ov f=some g → OvOK P f g
theorem callD1_ok (hmix:P.follows .mixedOrders=true) (hc:CallOK P call) {lp:Nat} {f:Nat} {fn:AFun} (hm:mF P f fn=true ∨ (fn=⟨fn.np,.ret,[]⟩ ∧ DvOK P f fn.np)) {args:List AV} {s s':Sg} {res:List AV}
 (he:runFnD call lp fn args s=some (res,s')) {G:Gh} {w:World} {vs:List Value} (hw:WI G s w) (hB:Base G) (hv:VRs G args vs) (hn:AV.nts args=true) :
 Enters P f ∧ CallsD P f vs.toArray .returning w fun e u w'=>u=.returning ∧ Post G w s' res e w':=by
 rcases hm with hm | ⟨e,hd⟩
 ·exact fnD_ok hmix hc hm he hw hB hv
 rw [e] at he
 unfold runFnD at he
 split at he
 ·rename_i hl
  simp only [aexec,Obs,Fr.start,evRs,Oie,Pie] at he
  obtain ⟨rfl,rfl⟩:=he
  exact hd args G s w vs hl hw hB hv hn
 cases he
theorem callN_ok {p:Pg} (h:PgOK P p):∀ n,CallOK P (callN p n) ∧ CallDOK P (callDN p n)
 | 0=>by
   have h0:CallOK P (callN p 0):=fun f args s res s' he=>by simp [callN] at he
   refine ⟨h0,?_⟩
   intro f args s res s' he G w vs hw hB hv hn
   simp only [callDN,Obe] at he
   obtain ⟨fn,h1,h2⟩:=he
   exact callD1_ok h.mix h0 ((h.fn f fn h1).imp id And.right) h2 hw hB hv hn
 | n + 1=>by
   obtain ⟨ih1,ih2⟩:=callN_ok h n
   have hN:CallOK P (callN p (n + 1)):=by
    intro f args s res s' he G w vs hw hB hv hn
    simp only [callN] at he
    split at he
    ·rename_i g hg
     exact h.ov f g hg args s res s' he G w vs hw hB hv hn
    rename_i ho
    simp only [Obe] at he
    obtain ⟨fn,h1,h2⟩:=he
    rcases h.fn f fn h1 with hm | hm
    ·exact fn_ok h.mix ih1 ih2 hm h2 hw hB hv
    rw [ho] at hm;cases hm.1
   refine ⟨hN,?_⟩
   intro f args s res s' he G w vs hw hB hv hn
   simp only [callDN,Obe] at he
   obtain ⟨fn,h1,h2⟩:=he
   exact callD1_ok h.mix hN ((h.fn f fn h1).imp id And.right) h2 hw hB hv hn
end
end Go.Sim
namespace Go.Sim
open Go
def Mo {α:Type} (F:Nat → Option α):Prop:=∀ m n r,m ≤ n → F m=some r → F n=some r
theorem Mo.step {α:Type} {F:Nat → Option α} (h:∀ n r,F n=some r → F (n + 1)=some r):Mo F:=by
 intro m n r hmn hm
 induction hmn with
 | refl=>exact hm
 | step _ ih=>exact h _ _ ih
open Classical in
noncomputable def Lim {α:Type} (F:Nat → Option α):Option α:=if h:∃ n r,F n=some r then F (Classical.choose h) else none
theorem Lim_iff {α:Type} {F:Nat → Option α} (hm:Mo F) {r:α}:Lim F=some r ↔ ∃ n,F n=some r:=by
 unfold Lim
 split
 ·rename_i h
  constructor
  ·intro e;exact ⟨_,e⟩
  rintro ⟨n,hn⟩
  obtain ⟨r',hr'⟩:=Classical.choose_spec h
  have h1:=hm _ _ _ (Nat.le_max_left n (Classical.choose h)) hn
  have h2:=hm _ _ _ (Nat.le_max_right n (Classical.choose h)) hr'
  rw [h1] at h2
  rw [hr',h2]
 rename_i h
 constructor
 ·intro e;cases e
 rintro ⟨n,hn⟩;exact absurd ⟨n,r,hn⟩ h
theorem opt_ext {α:Type} {a b:Option α} (h:∀ r,a=some r ↔ b=some r):a=b:=by
 cases a with
 | none=>cases b with
   | none=>rfl
   | some x=>exact absurd ((h x).2 rfl) (by simp)
 | some x=>exact ((h x).1 rfl).symm
theorem mo_const {α:Type} (a:Option α):Mo fun _=>a:=fun _ _ _ _ h=>h
theorem Lim_const {α:Type} (a:Option α):Lim (fun _=>a)=a:=opt_ext fun r=>(Lim_iff (mo_const a)).trans ⟨fun ⟨_,h⟩=>h,fun h=>⟨0,h⟩⟩
theorem Mo.bind {α β:Type} {F:Nat → Option α} {H:Nat → α → Option β} (hF:Mo F) (hH:∀ x,Mo fun n=>H n x):Mo fun n=>(F n).bind (H n):=by
 intro m n r hmn hm
 simp only [Obe] at hm ⊢
 obtain ⟨x,h1,h2⟩:=hm
 exact ⟨x,hF m n x hmn h1,hH x m n r hmn h2⟩
theorem Lim_bind {α β:Type} {F:Nat → Option α} {H:Nat → α → Option β} (hF:Mo F) (hH:∀ x,Mo fun n=>H n x):Lim (fun n=>(F n).bind (H n))=(Lim F).bind fun x=>Lim fun n=>H n x:=by
 refine opt_ext fun r=>?_
 rw [Lim_iff (hF.bind hH)]
 simp only [Obe]
 constructor
 ·rintro ⟨n,x,h1,h2⟩
  exact ⟨x,(Lim_iff hF).2 ⟨n,h1⟩,(Lim_iff (hH x)).2 ⟨n,h2⟩⟩
 rintro ⟨x,h1,h2⟩
 obtain ⟨n,h1⟩:=(Lim_iff hF).1 h1
 obtain ⟨k,h2⟩:=(Lim_iff (hH x)).1 h2
 exact ⟨max n k,x,hF _ _ _ (Nat.le_max_left ..) h1,hH x _ _ _ (Nat.le_max_right ..) h2⟩
theorem Lim_bindC {α β:Type} {F:Nat → Option α} {g:α → Option β} (hF:Mo F):Lim (fun n=>(F n).bind g)=(Lim F).bind g:=by
 rw [Lim_bind (F:=F) (H:=fun _=>g) hF (fun x=>mo_const _)]
 congr 1
 funext x
 exact Lim_const _
def LeC (c c':Caller):Prop:=∀ f a s r,c f a s=some r → c' f a s=some r
theorem aop_le {c c':Caller} (h:LeC c c') {d:Option Nat} {op:AOp} {fr:Fr} {r:Option TV × Fr} (he:aop c d op fr=some r):aop c' d op fr=some r:=by
 cases op with
 | call f as =>
   simp only [aop,Obe] at he ⊢
   obtain ⟨g,h1,l,h2,x,h3,h4⟩:=he
   refine ⟨g,h1,l,h2,x,?_,h4⟩
   cases g <;> simp only [callOf,reduceCtorEq] at h3 ⊢
   exact h _ _ _ _ h3
 | callq ks f as =>
   simp only [aop,Obe] at he ⊢
   obtain ⟨g,h1,l,h2,x,h3,h4⟩:=he
   refine ⟨g,h1,l,h2,x,?_,h4⟩
   cases g <;> simp only [callOf,reduceCtorEq] at h3 ⊢
   exact h _ _ _ _ h3
 | inv tb f as =>
   simp only [aop,Obe] at he ⊢
   obtain ⟨g,h1,l,h2,x,h3,h4⟩:=he
   refine ⟨g,h1,l,h2,x,?_,h4⟩
   cases g <;> simp only [invOf,reduceCtorEq] at h3 ⊢
   obtain ⟨q,h5,h6⟩:=Obe.1 h3
   exact Obe.2 ⟨q,h5,h _ _ _ _ h6⟩
 | alloc lc z=>cases lc <;> exact he
 | box lc x=>cases lc <;> exact he
 | _=>exact he
theorem aop_nc {c c':Caller} {d:Option Nat} {op:AOp} {fr:Fr} (h:∀ f as,op ≠ .call f as) (hq:∀ ks f as,op ≠ .callq ks f as) (hi:∀ tb f as,op ≠ .inv tb f as):aop c d op fr=aop c' d op fr:=by
 cases op with
 | call f as=>exact absurd rfl (h f as)
 | callq ks f as=>exact absurd rfl (hq ks f as)
 | inv tb f as=>exact absurd rfl (hi tb f as)
 | alloc lc z=>cases lc <;> rfl
 | box lc x=>cases lc <;> rfl
 | _=>rfl
theorem ins_le {c c':Caller} (h:LeC c c') {i:AIns} {fr fr':Fr} (he:ins c i fr=some fr'):ins c' i fr=some fr':=by
 have hr:∀ fr',run1 c i fr=some fr' → run1 c' i fr=some fr':=by
  intro fr' h1
  simp only [run1,Obe] at h1 ⊢
  obtain ⟨r,h2,h3⟩:=h1
  exact ⟨r,aop_le h h2,h3⟩
 unfold ins at he ⊢
 cases hg:i.g with
 | none=>rw [hg] at he;exact hr _ he
 | some p =>
   obtain ⟨s,want⟩:=p
   rw [hg] at he
   simp only [Obe] at he ⊢
   obtain ⟨v,h1,b,h2,h3⟩:=he
   refine ⟨v,h1,b,h2,?_⟩
   split
   ·rename_i e;rw [if_pos e] at h3;exact hr _ h3
   rename_i e;rw [if_neg e] at h3;exact h3
theorem exL_le {c c':Caller} (h:LeC c c'):∀ {l:List AIns} {fr fr':Fr},exL c l fr=some fr' → exL c' l fr=some fr'
 | [],fr,fr',he=>he
 | i :: l,fr,fr',he=>by
   simp only [exL,Obe] at he ⊢
   obtain ⟨x,h1,h2⟩:=he
   exact ⟨x,ins_le h h1,exL_le h h2⟩
theorem loopN_le {b b':Fr → Option (Ex × Fr)} (h:∀ fr r,b fr=some r → b' fr=some r):∀ {n m:Nat} {fr:Fr} {r:Ex × Fr},n ≤ m → loopN b n fr=some r → loopN b' m fr=some r
 | 0,m,fr,r,_,he=>by simp [loopN] at he
 | n + 1,0,fr,r,hm,he=>by omega
 | n + 1,m + 1,fr,r,hm,he=>by
   simp only [loopN,Obe] at he ⊢
   obtain ⟨x,h1,h2⟩:=he
   refine ⟨x,h _ _ h1,?_⟩
   obtain ⟨e,fr1⟩:=x
   cases e with
   | norm=>exact loopN_le h (by omega) h2
   | _=>exact h2
theorem aexec_le {c c':Caller} (h:LeC c c') {n m:Nat} (hm:n ≤ m):∀ {ac:AC} {fr:Fr} {r:Ex × Fr},aexec c n ac fr=some r → aexec c' m ac fr=some r
 | .skip,fr,r,he=>he
 | .ret,fr,r,he=>he
 | .retz _ _,fr,r,he=>he
 | .exit _,fr,r,he=>he
 | .seq a b,fr,r,he=>by
   simp only [aexec,Obe] at he ⊢
   obtain ⟨x,h1,h2⟩:=he
   refine ⟨x,aexec_le h hm h1,?_⟩
   obtain ⟨e,fr1⟩:=x
   cases e with
   | norm=>exact aexec_le h hm h2
   | _=>exact h2
 | .cond o a b,fr,r,he=>by
   simp only [aexec,Obe] at he ⊢
   obtain ⟨v,h1,t,h2,h3⟩:=he
   refine ⟨v,h1,t,h2,?_⟩
   cases t with
   | true=>exact aexec_le h hm h3
   | false=>exact aexec_le h hm h3
 | .block i a,fr,r,he=>by
   simp only [aexec,Obe] at he ⊢
   obtain ⟨x,h1,h2⟩:=he
   exact ⟨x,aexec_le h hm h1,h2⟩
 | .loop b,fr,r,he=>by
   simp only [aexec] at he ⊢
   exact loopN_le (fun fr r hb=>aexec_le h hm hb) hm he
 | .reg l fs k kl,fr,r,he=>by
   simp only [aexec,Obe] at he ⊢
   obtain ⟨x,h1,h2⟩:=he
   exact ⟨x,exL_le h h1,h2⟩
 | .regd l fs k kl D,fr,r,he=>by
   simp only [aexec,Obe] at he ⊢
   obtain ⟨x,h1,h2⟩:=he
   refine ⟨x,exL_le h h1,?_⟩
   split at h2
   ·rename_i hany
    rw [if_pos (show anyOrder c' l D (fr.fresh fs) x from fun π a b=>exL_le h (hany π a b))]
    exact h2
   cases h2
theorem runD_le {c c':Caller} (h:LeC c c'):∀ {l:List (Nat × List AV)} {s r:Sg},runD c l s=some r → runD c' l s=some r
 | [],s,r,he=>he
 | (f,as) :: l,s,r,he=>by
  simp only [runD,Obe] at he ⊢
  obtain ⟨x,h1,h2⟩:=he
  exact ⟨x,h _ _ _ _ h1,runD_le h h2⟩
theorem runFnD_le {c c':Caller} (h:LeC c c') {n m:Nat} (hm:n ≤ m) {fn:AFun} {args:List AV} {s:Sg} {r:List AV × Sg} (he:runFnD c n fn args s=some r):runFnD c' m fn args s=some r:=by
 unfold runFnD at he ⊢
 split at he
 ·rename_i hl
  rw [if_pos hl]
  simp only [Obe] at he ⊢
  obtain ⟨x,h1,h2⟩:=he
  exact ⟨x,aexec_le h hm h1,h2⟩
 cases he
theorem runFn_le {c c' d d':Caller} (h:LeC c c') (hd:LeC d d') {n m:Nat} (hm:n ≤ m) {fn:AFun} {args:List AV} {s:Sg} {r:List AV × Sg} (he:runFn c d n fn args s=some r):runFn c' d' m fn args s=some r:=by
 unfold runFn at he ⊢
 split at he
 ·rename_i hl
  rw [if_pos hl]
  simp only [Obe] at he ⊢
  obtain ⟨x,h1,h2⟩:=he
  refine ⟨x,aexec_le h hm h1,?_⟩
  split at h2
  ·cases h2
  simp only [Obe] at h2 ⊢
  obtain ⟨s',h3,h4⟩:=h2
  exact ⟨s',runD_le hd h3,h4⟩
 cases he
theorem callDN_le {p:Pg} {n:Nat} (h:LeC (callN p n) (callN p (n + 1))):LeC (callDN p n) (callDN p (n + 1)):=by
 intro f a s r he
 simp only [callDN,Obe] at he ⊢
 obtain ⟨fn,h1,h2⟩:=he
 exact ⟨fn,h1,runFnD_le h (Nat.le_succ n) h2⟩
theorem callN_succ {p:Pg}:∀ n,LeC (callN p n) (callN p (n + 1))
 | 0=>fun f a s r he=>by simp [callN] at he
 | n + 1=>by
   have ih:=callN_succ (p:=p) n
   intro f a s r he
   rw [callN] at he ⊢
   split at he
   ·rename_i g hg
    exact he
   rename_i hg
   simp only [Obe] at he ⊢
   obtain ⟨fn,h1,h2⟩:=he
   exact ⟨fn,h1,runFn_le ih (callDN_le ih) (Nat.le_succ n) h2⟩
theorem callN_le {p:Pg} {n m:Nat} (h:n ≤ m):LeC (callN p n) (callN p m):=fun f a s r he=>Mo.step (F:=fun n=>callN p n f a s) (fun n r h=>callN_succ n f a s r h) n m r h he
noncomputable def callL (p:Pg):Caller:=fun f a s=>Lim fun n=>callN p n f a s
theorem callN_mo {p:Pg} {f:Nat} {a:List AV} {s:Sg}:Mo fun n=>callN p n f a s:=fun m n r h he=>callN_le h f a s r he
theorem callL_iff {p:Pg} {f:Nat} {a:List AV} {s:Sg} {r:List AV × Sg}:callL p f a s=some r ↔ ∃ n,callN p n f a s=some r:=Lim_iff callN_mo
noncomputable def aexecW (c:Caller) (ac:AC) (fr:Fr):Option (Ex × Fr):=Lim fun n=>aexec c n ac fr
theorem aexec_mo {c:Caller} {ac:AC} {fr:Fr}:Mo fun n=>aexec c n ac fr:=fun m n r h he=>aexec_le (fun _ _ _ _ x=>x) h he
theorem aexecW_iff {c:Caller} {ac:AC} {fr:Fr} {r:Ex × Fr}:aexecW c ac fr=some r ↔ ∃ n,aexec c n ac fr=some r:=Lim_iff aexec_mo
section
variable {c:Caller}
theorem W_skip {fr:Fr}:aexecW c .skip fr=some (.norm,fr):=Lim_const _
theorem W_ret {fr:Fr}:aexecW c .ret fr=some (.ret,fr):=Lim_const _
theorem W_exit {i:Nat} {fr:Fr}:aexecW c (.exit i) fr=some (.exit i,fr):=Lim_const _
theorem W_reg {l:List AIns} {fs k kl:List Nat} {fr:Fr}:aexecW c (.reg l fs k kl) fr=(exL c l (fr.fresh fs)).bind fun fr'=>some (.norm,fr'.keep k kl):=Lim_const _
noncomputable def thenW (c:Caller) (b:AC):Ex × Fr → Option (Ex × Fr)
 | (.norm,fr)=>aexecW c b fr
 | r=>some r
noncomputable def thenN (c:Nat → Caller) (n:Nat) (b:AC):Ex × Fr → Option (Ex × Fr)
 | (.norm,fr)=>aexec (c n) n b fr
 | r=>some r
theorem seq_eq {c:Caller} {n:Nat} {a b:AC} {fr:Fr}:aexec c n (.seq a b) fr=(aexec c n a fr).bind (thenN (fun _=>c) n b):=by
 simp only [aexec]
 congr 1
 funext r
 obtain ⟨e,fr⟩:=r
 cases e <;> rfl
theorem W_seq {a b:AC} {fr:Fr}:aexecW c (.seq a b) fr=(aexecW c a fr).bind (thenW c b):=by
 unfold aexecW
 simp only [seq_eq]
 rw [Lim_bind (F:=fun n=>aexec c n a fr) (H:=fun n=>thenN (fun _=>c) n b) aexec_mo (fun r=>by
  obtain ⟨e,fr⟩:=r
  cases e with
  | norm=>exact aexec_mo
  | _=>exact mo_const _)]
 congr 1
 funext r
 obtain ⟨e,fr⟩:=r
 cases e with
 | norm=>rfl
 | _=>exact Lim_const _
theorem W_cond {o:AO} {a b:AC} {fr:Fr}:aexecW c (.cond o a b) fr=(evV fr.env o).bind fun v=>(asB v).bind fun t=>if t then aexecW c a fr else aexecW c b fr:=by
 unfold aexecW
 simp only [aexec]
 cases evV fr.env o with
 | none=>exact Lim_const _
 | some v =>
   simp only [Obs]
   cases asB v with
   | none=>exact Lim_const _
   | some t=>cases t <;> rfl
def inW (id:Nat):Ex × Fr → Option (Ex × Fr)
 | (.exit i,fr)=>if i=id then some (.norm,fr) else some (.exit i,fr)
 | r=>some r
theorem W_block {i:Nat} {a:AC} {fr:Fr}:aexecW c (.block i a) fr=(aexecW c a fr).bind (inW i):=by
 have e:∀ n,aexec c n (.block i a) fr=(aexec c n a fr).bind (inW i):=by
  intro n
  simp only [aexec]
  congr 1
  funext r
  obtain ⟨x,fr⟩:=r
  cases x <;> rfl
 unfold aexecW
 simp only [e]
 exact Lim_bindC aexec_mo
theorem loop_iff {b:AC} {fr:Fr} {r:Ex × Fr}:aexecW c (.loop b) fr=some r ↔ ∃ k,loopN (aexecW c b) k fr=some r:=by
 rw [aexecW_iff]
 simp only [aexec]
 constructor
 ·rintro ⟨n,h⟩
  exact ⟨n,loopN_le (fun fr r h=>aexecW_iff.2 ⟨n,h⟩) (Nat.le_refl n) h⟩
 rintro ⟨k,h⟩
 induction k generalizing fr with
 | zero=>simp [loopN] at h
 | succ k ih =>
   simp only [loopN,Obe] at h
   obtain ⟨x,h1,h2⟩:=h
   obtain ⟨n1,h1⟩:=aexecW_iff.1 h1
   obtain ⟨e,fr1⟩:=x
   cases e with
   | norm =>
     obtain ⟨n2,h2⟩:=ih h2
     refine ⟨max n1 n2 + 1,?_⟩
     simp only [loopN,Obe]
     exact ⟨_,aexec_le (fun _ _ _ _ x=>x) (by omega) h1,loopN_le (fun fr r h=>aexec_le (fun _ _ _ _ x=>x) (by omega) h) (by omega) h2⟩
   | _ =>
     refine ⟨n1 + 1,?_⟩
     simp only [loopN,Obe]
     exact ⟨_,aexec_le (fun _ _ _ _ x=>x) (by omega) h1,h2⟩
theorem W_loop {b:AC} {fr:Fr}:aexecW c (.loop b) fr=(aexecW c b fr).bind (thenW c (.loop b)):=by
 refine opt_ext fun r=>?_
 rw [loop_iff]
 simp only [Obe]
 constructor
 ·rintro ⟨k,h⟩
  cases k with
  | zero=>simp [loopN] at h
  | succ k =>
    simp only [loopN,Obe] at h
    obtain ⟨x,h1,h2⟩:=h
    refine ⟨x,h1,?_⟩
    obtain ⟨e,fr1⟩:=x
    cases e with
    | norm=>exact loop_iff.2 ⟨k,h2⟩
    | _=>exact h2
 rintro ⟨x,h1,h2⟩
 obtain ⟨e,fr1⟩:=x
 cases e with
 | norm =>
   obtain ⟨k,hk⟩:=loop_iff.1 h2
   refine ⟨k + 1,?_⟩
   simp only [loopN,Obe]
   exact ⟨_,h1,hk⟩
 | _ =>
   refine ⟨1,?_⟩
   simp only [loopN,Obe]
   exact ⟨_,h1,h2⟩
end
section
variable {p:Pg}
theorem ins_lim {i:AIns} {fr:Fr}:(Lim fun n=>ins (callN p n) i fr)=ins (callL p) i fr:=by
 have hr:(Lim fun n=>run1 (callN p n) i fr)=run1 (callL p) i fr:=by
  unfold run1
  by_cases hc:∃ f as,i.op=.call f as
  ·obtain ⟨f,as,hop⟩:=hc
   rw [hop]
   simp only [aop]
   cases evV fr.env f with
   | none=>exact Lim_const _
   | some g =>
     simp only [Obs]
     cases evVs fr.env as with
     | none=>exact Lim_const _
     | some l =>
       simp only [Obs]
       cases g with
       | fn k a b =>
         simp only [callOf,Option.bind_assoc,Obs]
         exact Lim_bindC callN_mo
       | _=>exact Lim_const _
  by_cases hq:∃ ks f as,i.op=.callq ks f as
  ·obtain ⟨ks,f,as,hop⟩:=hq
   rw [hop]
   simp only [aop]
   cases evV fr.env f with
   | none=>exact Lim_const _
   | some g =>
     simp only [Obs]
     cases evVs fr.env as with
     | none=>exact Lim_const _
     | some l =>
       simp only [Obs]
       cases g with
       | fn k a b =>
         simp only [callOf,Option.bind_assoc]
         exact Lim_bindC callN_mo
       | _=>exact Lim_const _
  by_cases hi:∃ tb f as,i.op=.inv tb f as
  ·obtain ⟨tb,f,as,hop⟩:=hi
   rw [hop]
   simp only [aop]
   cases evV fr.env f with
   | none=>exact Lim_const _
   | some g =>
     simp only [Obs]
     cases evVs fr.env as with
     | none=>exact Lim_const _
     | some l =>
       simp only [Obs]
       cases g with
       | iface t v =>
         simp only [invOf]
         cases tb.find? fun q=>q.1 == t with
         | none=>exact Lim_const _
         | some q =>
           simp only [Obs,Option.bind_assoc]
           exact Lim_bindC callN_mo
       | _=>exact Lim_const _
  have e:∀ n,aop (callN p n) i.d i.op fr=aop (callL p) i.d i.op fr:=fun n=>aop_nc (fun f as hh=>hc ⟨f,as,hh⟩) (fun ks f as hh=>hq ⟨ks,f,as,hh⟩) fun tb f as hh=>hi ⟨tb,f,as,hh⟩
  simp only [e]
  exact Lim_const _
 unfold ins
 cases i.g with
 | none=>exact hr
 | some q =>
   obtain ⟨s,want⟩:=q
   simp only
   cases fr.env s with
   | none=>exact Lim_const _
   | some v =>
     simp only [Obs]
     cases guardOf v with
     | none=>exact Lim_const _
     | some b =>
       simp only [Obs]
       by_cases hb:b=some want
       ·simp only [if_pos hb];exact hr
       simp only [if_neg hb];exact Lim_const _
theorem ins_mo {i:AIns} {fr:Fr}:Mo fun n=>ins (callN p n) i fr:=fun m n r h he=>ins_le (callN_le h) he
theorem exL_mo {l:List AIns} {fr:Fr}:Mo fun n=>exL (callN p n) l fr:=fun m n r h he=>exL_le (callN_le h) he
theorem exL_lim:∀ {l:List AIns} {fr:Fr},(Lim fun n=>exL (callN p n) l fr)=exL (callL p) l fr
 | [],fr=>Lim_const _
 | i :: l,fr=>by
   simp only [exL]
   rw [Lim_bind (F:=fun n=>ins (callN p n) i fr) ins_mo (fun x=>exL_mo),ins_lim]
   congr 1
   funext x
   exact exL_lim
theorem exL_at {p:Pg} {l:List AIns} {fr r:Fr} (h:exL (callL p) l fr=some r):∃ n,exL (callN p n) l fr=some r:=by
 rw [← exL_lim] at h
 exact (Lim_iff exL_mo).1 h
def lists (k:Nat):Nat → List (List Nat)
 | 0=>[[]]
 | m + 1=>(List.range k).flatMap fun x=>(lists k m).map (x :: ·)
theorem mem_lists {k:Nat}:∀ π:List Nat,(∀ x ∈ π,x < k) → π ∈ lists k π.length
 | [],_=>by simp [lists]
 | x :: π,h=>by
   simp only [List.length_cons,lists,List.mem_flatMap,List.mem_map]
   exact ⟨x,List.mem_range.2 (h x (List.mem_cons_self ..)),π,mem_lists π fun y hy=>h y (List.mem_cons_of_mem _ hy),rfl⟩
theorem fin_order {p:Pg} {f r:Fr} {l:List AIns}:∀ (L:List (List Nat)) (C:List Nat → Prop),(∀ π ∈ L,C π → ∃ n,exL (callN p n) (π.map fun k=>l.getD k dum) f=some r) → ∃ n,∀ π ∈ L,C π → exL (callN p n) (π.map fun k=>l.getD k dum) f=some r
 | [],_,_=>⟨0,fun π h=>by cases h⟩
 | q :: L,C,h=>by
   obtain ⟨n,hn⟩:=fin_order L C fun π hp=>h π (List.mem_cons_of_mem _ hp)
   by_cases hq:C q
   ·obtain ⟨m,hm⟩:=h q (List.mem_cons_self ..) hq
    refine ⟨max n m,fun π hp hc=>?_⟩
    cases hp with
    | head=>exact exL_le (callN_le (by omega)) hm
    | tail _ hp=>exact exL_le (callN_le (by omega)) (hn π hp hc)
   refine ⟨n,fun π hp hc=>?_⟩
   cases hp with
   | head=>exact absurd hc hq
   | tail _ hp=>exact hn π hp hc
theorem aexecC_mo {ac:AC} {fr:Fr}:Mo fun n=>aexec (callN p n) n ac fr:=fun m n r h he=>aexec_le (callN_le h) h he
theorem aexec_lim:∀ {ac:AC} {fr:Fr},(Lim fun n=>aexec (callN p n) n ac fr)=aexecW (callL p) ac fr
 | .skip,fr=>rfl
 | .ret,fr=>rfl
 | .retz _ _,fr=>rfl
 | .exit _,fr=>rfl
 | .seq a b,fr=>by
   rw [W_seq]
   have e:∀ n,aexec (callN p n) n (.seq a b) fr=(aexec (callN p n) n a fr).bind (thenN (callN p) n b):=by
    intro n
    simp only [aexec]
    congr 1
    funext r
    obtain ⟨e,fr⟩:=r
    cases e <;> rfl
   simp only [e]
   rw [Lim_bind (F:=fun n=>aexec (callN p n) n a fr) (H:=fun n=>thenN (callN p) n b) aexecC_mo (fun r=>by
    obtain ⟨e,fr⟩:=r
    cases e with
    | norm=>exact aexecC_mo
    | _=>exact mo_const _),aexec_lim]
   congr 1
   funext r
   obtain ⟨e,fr⟩:=r
   cases e with
   | norm=>exact aexec_lim
   | _=>exact Lim_const _
 | .cond o a b,fr=>by
   rw [W_cond]
   simp only [aexec]
   cases evV fr.env o with
   | none=>exact Lim_const _
   | some v =>
     simp only [Obs]
     cases asB v with
     | none=>exact Lim_const _
     | some t =>
       cases t with
       | true=>exact aexec_lim
       | false=>exact aexec_lim
 | .block i a,fr=>by
   have e:∀ n,aexec (callN p n) n (.block i a) fr=(aexec (callN p n) n a fr).bind (inW i):=by
    intro n
    simp only [aexec]
    congr 1
    funext r
    obtain ⟨x,fr⟩:=r
    cases x <;> rfl
   rw [W_block]
   simp only [e]
   rw [Lim_bindC aexecC_mo,aexec_lim]
 | .loop b,fr=>by
   refine opt_ext fun r=>?_
   rw [Lim_iff aexecC_mo,loop_iff]
   simp only [aexec]
   have hb:∀ fr r,aexecW (callL p) b fr=some r ↔ ∃ n,aexec (callN p n) n b fr=some r:=fun fr r=>by rw [← aexec_lim,Lim_iff aexecC_mo]
   constructor
   ·rintro ⟨n,h⟩
    exact ⟨n,loopN_le (fun fr r h=>(hb fr r).2 ⟨n,h⟩) (Nat.le_refl n) h⟩
   rintro ⟨k,h⟩
   induction k generalizing fr with
   | zero=>simp [loopN] at h
   | succ k ih =>
     simp only [loopN,Obe] at h
     obtain ⟨x,h1,h2⟩:=h
     obtain ⟨n1,h1⟩:=(hb _ _).1 h1
     obtain ⟨e,fr1⟩:=x
     cases e with
     | norm =>
       obtain ⟨n2,h2⟩:=ih _ h2
       refine ⟨max n1 n2 + 1,?_⟩
       simp only [loopN,Obe]
       exact ⟨_,aexec_le (callN_le (by omega)) (by omega) h1,loopN_le (fun fr r h=>aexec_le (callN_le (by omega)) (by omega) h) (by omega) h2⟩
     | _ =>
       refine ⟨n1 + 1,?_⟩
       simp only [loopN,Obe]
       exact ⟨_,aexec_le (callN_le (by omega)) (by omega) h1,h2⟩
 | .reg l fs k kl,fr=>by
   rw [W_reg]
   simp only [aexec]
   rw [Lim_bindC exL_mo,exL_lim]
 | .regd l fs k kl D,fr=>by
   refine opt_ext fun r=>(Lim_iff aexecC_mo).trans ?_
   rw [show aexecW (callL p) (.regd l fs k kl D) fr=aexec (callL p) 0 (.regd l fs k kl D) fr from Lim_const _]
   constructor
   ·rintro ⟨n,he⟩
    have he:aexec (callN p n) 0 (.regd l fs k kl D) fr=some r:=he
    exact aexec_le (fun f a s r h=>callL_iff.2 ⟨n,h⟩) (Nat.le_refl 0) he
   intro he
   simp only [aexec,Obe] at he
   obtain ⟨x,h1,h2⟩:=he
   split at h2
   ·rename_i hany
    obtain ⟨n0,h3⟩:=exL_at h1
    obtain ⟨n1,h4⟩:=fin_order (p:=p) (f:=fr.fresh fs) (r:=x) (l:=l) (lists l.length l.length) (fun π=>π.Perm (List.range l.length) ∧ Ready D [] π) fun π _ hp=>exL_at (hany π hp.1 hp.2)
    refine ⟨max n0 n1,?_⟩
    simp only [aexec,Obe]
    refine ⟨x,exL_le (callN_le (by omega)) h3,?_⟩
    rw [if_pos]
    ·exact h2
    intro π a b
    have hm:π ∈ lists l.length l.length:=by
     have:=mem_lists (k:=l.length) π fun y hy=>List.mem_range.1 (a.subset hy)
     rw [a.length_eq,List.length_range] at this
     exact this
    exact exL_le (callN_le (by omega)) (h4 π hm ⟨a,b⟩)
   cases h2
noncomputable def runFnDW (c:Caller) (fn:AFun) (args:List AV) (s:Sg):Option (List AV × Sg) :=
 if args.length=fn.np then
  (aexecW c fn.body (Fr.start args s)).bind fun r=>(match r.1,r.2.df with
    | .exit _,_=>none
    | _,[]=>(evRs r.2 fn.res).bind fun l=>some (AV.ers l,r.2.sg)
    | _,_=>none)
 else none
noncomputable def callDL (p:Pg):Caller:=fun f args s=>(p.fn f).bind fun fn=>runFnDW (callL p) fn args s
noncomputable def finW (cd:Caller) (fn:AFun):Ex × Fr → Option (List AV × Sg)
 | (.exit _,_)=>none
 | (_,fr)=>(runD cd fr.df fr.sg).bind fun s'=>(evRs { fr with sg:=s' } fn.res).bind fun l=>some (AV.ers l,s')
noncomputable def runFnW (c cd:Caller) (fn:AFun) (args:List AV) (s:Sg):Option (List AV × Sg) :=
 if args.length=fn.np then (aexecW c fn.body (Fr.start args s)).bind (finW cd fn) else none
theorem runFnD_mo {fn:AFun} {args:List AV} {s:Sg}:Mo fun n=>runFnD (callN p n) n fn args s:=fun m n r h he=>runFnD_le (callN_le h) h he
theorem runFnD_lim {fn:AFun} {args:List AV} {s:Sg}:(Lim fun n=>runFnD (callN p n) n fn args s)=runFnDW (callL p) fn args s:=by
 unfold runFnD runFnDW
 by_cases h:args.length=fn.np
 ·simp only [if_pos h]
  rw [Lim_bindC aexecC_mo,aexec_lim]
  rfl
 simp only [if_neg h];exact Lim_const _
theorem callDN_mo {f:Nat} {args:List AV} {s:Sg}:Mo fun n=>callDN p n f args s:=by
 unfold callDN
 cases p.fn f with
 | none=>exact mo_const _
 | some fn=>exact runFnD_mo
theorem callDN_lim {f:Nat} {args:List AV} {s:Sg}:(Lim fun n=>callDN p n f args s)=callDL p f args s:=by
 unfold callDN callDL
 cases p.fn f with
 | none=>exact Lim_const _
 | some fn=>exact runFnD_lim
theorem callDN_leC {m n:Nat} (h:m ≤ n):LeC (callDN p m) (callDN p n):=fun f a s r he=>callDN_mo m n r h he
theorem runD_lim:∀ {l:List (Nat × List AV)} {s:Sg},(Lim fun n=>runD (callDN p n) l s)=runD (callDL p) l s
 | [],s=>Lim_const _
 | (f,as) :: l,s=>by
  simp only [runD]
  rw [Lim_bind (F:=fun n=>callDN p n f as s) (H:=fun n x=>runD (callDN p n) l x.2) callDN_mo (fun x=>fun m n r h he=>runD_le (callDN_leC h) he),callDN_lim]
  congr 1
  funext x
  exact runD_lim
theorem callL_eq {f:Nat} {args:List AV} {s:Sg}:callL p f args s=match p.ov f with
 | some g=>g args s
 | none=>(p.fn f).bind fun fn=>runFnW (callL p) (callDL p) fn args s:=by
 have e:callL p f args s=Lim fun n=>callN p (n + 1) f args s:=opt_ext fun r=>by
  rw [callL_iff,Lim_iff (fun m n r h he=>callN_le (by omega) f args s r he)]
  constructor
  ·rintro ⟨n,h⟩;exact ⟨n,callN_le (Nat.le_succ n) f args s r h⟩
  rintro ⟨n,h⟩;exact ⟨n + 1,h⟩
 rw [e]
 simp only [callN]
 cases p.ov f with
 | some g=>exact Lim_const _
 | none =>
   simp only
   cases p.fn f with
   | none=>exact Lim_const _
   | some fn =>
     simp only [Obs]
     have hrun:∀ n,runFn (callN p n) (fun f args s=>(p.fn f).bind fun fn=>runFnD (callN p n) n fn args s) n fn args s=if args.length=fn.np then
      (aexec (callN p n) n fn.body (Fr.start args s)).bind (finW (callDN p n) fn) else none:=by
      intro n
      unfold runFn
      split
      ·congr 1
       funext r
       obtain ⟨x,fr⟩:=r
       cases x <;> rfl
      rfl
     simp only [hrun,runFnW]
     by_cases h:args.length=fn.np
     ·simp only [if_pos h]
      rw [Lim_bind (F:=fun n=>aexec (callN p n) n fn.body (Fr.start args s)) (H:=fun n=>finW (callDN p n) fn) aexecC_mo (fun r=>by
       obtain ⟨x,fr⟩:=r
       cases x with
       | exit i=>exact mo_const _
       | _=>exact Mo.bind (fun m n r h he=>runD_le (callDN_leC h) he) (fun x=>mo_const _)),aexec_lim]
      congr 1
      funext r
      obtain ⟨x,fr⟩:=r
      cases x with
      | exit i=>exact Lim_const _
      | _ =>
        simp only [finW]
        rw [Lim_bindC (F:=fun n=>runD (callDN p n) fr.df fr.sg) (fun m n r h he=>runD_le (callDN_leC h) he),runD_lim]
     simp only [if_neg h];exact Lim_const _
end
end Go.Sim
namespace Go.Sim
open Go
def HL (c:Caller) (l:List AIns) (fr:Fr) (Q:Fr → Prop):Prop:=∃ fr',exL c l fr=some fr' ∧ Q fr'
def EX (c:Caller) (code:AC) (fr:Fr) (Q:Ex → Fr → Prop):Prop:=∃ e fr',aexecW c code fr=some (e,fr') ∧ Q e fr'
def HC (p:Pg) (f:Nat) (args:List AV) (s:Sg) (R:List AV → Sg → Prop):Prop:=∃ res s',callL p f args s=some (res,s') ∧ R res s'
def SQ (c:Caller) (b:AC) (Q:Ex → Fr → Prop):Ex → Fr → Prop
 | .norm,fr=>EX c b fr Q
 | .exit i,fr=>Q (.exit i) fr
 | .ret,fr=>Q .ret fr
def BQ (i:Nat) (Q:Ex → Fr → Prop):Ex → Fr → Prop
 | .exit j,fr=>if j=i then Q .norm fr else Q (.exit j) fr
 | .norm,fr=>Q .norm fr
 | .ret,fr=>Q .ret fr
def KQ (k kl:List Nat) (Q:Ex → Fr → Prop):Fr → Prop:=fun fr=>Q .norm (fr.keep k kl)
def FQ (cd:Caller) (fn:AFun) (R:List AV → Sg → Prop):Ex → Fr → Prop
 | .exit _,_=>False
 | _,fr=>∃ s' l,runD cd fr.df fr.sg=some s' ∧ evRs { fr with sg:=s' } fn.res=some l ∧ R (AV.ers l) s'
theorem HL.mono {c:Caller} {l:List AIns} {fr:Fr} {Q Q':Fr → Prop} (h:HL c l fr Q) (k:∀ fr,Q fr → Q' fr):HL c l fr Q':=let ⟨x,h1,h2⟩:=h;⟨x,h1,k _ h2⟩
theorem EX.mono {c:Caller} {l:AC} {fr:Fr} {Q Q':Ex → Fr → Prop} (h:EX c l fr Q) (k:∀ e fr,Q e fr → Q' e fr):EX c l fr Q':=let ⟨x,y,h1,h2⟩:=h;⟨x,y,h1,k _ _ h2⟩
theorem HC.mono {p:Pg} {f:Nat} {args:List AV} {s:Sg} {R R':List AV → Sg → Prop} (h:HC p f args s R) (k:∀ r s',R r s' → R' r s'):HC p f args s R':=let ⟨x,y,h1,h2⟩:=h;⟨x,y,h1,k _ _ h2⟩
section
variable {c:Caller} {fr:Fr} {Q:Ex → Fr → Prop}
theorem eseq {a b:AC} (h:EX c a fr (SQ c b Q)):EX c (.seq a b) fr Q:=by
 obtain ⟨e,fr',h1,h2⟩:=h
 cases e with
 | norm =>
   obtain ⟨e',fr2,h3,h4⟩:=h2
   exact ⟨e',fr2,by rw [W_seq,h1];exact h3,h4⟩
 | exit i=>exact ⟨.exit i,fr',by rw [W_seq,h1];rfl,h2⟩
 | ret=>exact ⟨.ret,fr',by rw [W_seq,h1];rfl,h2⟩
theorem eskip (h:Q .norm fr):EX c .skip fr Q:=⟨.norm,fr,W_skip,h⟩
theorem eret (h:Q .ret fr):EX c .ret fr Q:=⟨.ret,fr,W_ret,h⟩
theorem eexit {i:Nat} (h:Q (.exit i) fr):EX c (.exit i) fr Q:=⟨.exit i,fr,W_exit,h⟩
theorem eblock {i:Nat} {a:AC} (h:EX c a fr (BQ i Q)):EX c (.block i a) fr Q:=by
 obtain ⟨e,fr',h1,h2⟩:=h
 cases e with
 | norm=>exact ⟨.norm,fr',by rw [W_block,h1];rfl,h2⟩
 | ret=>exact ⟨.ret,fr',by rw [W_block,h1];rfl,h2⟩
 | exit j =>
   simp only [BQ] at h2
   by_cases hj:j=i
   ·rw [if_pos hj] at h2
    exact ⟨.norm,fr',by rw [W_block,h1];simp [inW,hj],h2⟩
   rw [if_neg hj] at h2
   exact ⟨.exit j,fr',by rw [W_block,h1];simp [inW,hj],h2⟩
theorem eloop {b:AC} (h:EX c b fr (SQ c (.loop b) Q)):EX c (.loop b) fr Q:=by
 obtain ⟨e,fr',h1,h2⟩:=h
 cases e with
 | norm =>
   obtain ⟨e',fr2,h3,h4⟩:=h2
   exact ⟨e',fr2,by rw [W_loop,h1];exact h3,h4⟩
 | exit i=>exact ⟨.exit i,fr',by rw [W_loop,h1];rfl,h2⟩
 | ret=>exact ⟨.ret,fr',by rw [W_loop,h1];rfl,h2⟩
theorem ecT {o:AO} {a b:AC} (hc:evV fr.env o=some (.lit (.bool true))) (h:EX c a fr Q):EX c (.cond o a b) fr Q:=by
 obtain ⟨e,fr',h1,h2⟩:=h
 exact ⟨e,fr',by rw [W_cond,hc];exact h1,h2⟩
theorem ecF {o:AO} {a b:AC} (hc:evV fr.env o=some (.lit (.bool false))) (h:EX c b fr Q):EX c (.cond o a b) fr Q:=by
 obtain ⟨e,fr',h1,h2⟩:=h
 exact ⟨e,fr',by rw [W_cond,hc];exact h1,h2⟩
theorem ereg {l:List AIns} {k kl:List Nat} (h:HL c l fr (KQ k kl Q)):EX c (.reg l [] k kl) fr Q:=by
 obtain ⟨fr',h1,h2⟩:=h
 exact ⟨.norm,fr'.keep k kl,by rw [W_reg];simp only [Fr.fresh,h1];rfl,h2⟩
theorem eregf {l:List AIns} {fs k kl:List Nat} (h:HL c l (fr.fresh fs) (KQ k kl Q)):EX c (.reg l fs k kl) fr Q:=by
 obtain ⟨fr',h1,h2⟩:=h
 exact ⟨.norm,fr'.keep k kl,by rw [W_reg,h1];rfl,h2⟩
theorem sqn {b:AC} (h:EX c b fr Q):SQ c b Q .norm fr:=h
theorem sqr {b:AC} (h:Q .ret fr):SQ c b Q .ret fr:=h
theorem sqx {b:AC} {i:Nat} (h:Q (.exit i) fr):SQ c b Q (.exit i) fr:=h
theorem bqn {i:Nat} (h:Q .norm fr):BQ i Q .norm fr:=h
theorem bqr {i:Nat} (h:Q .ret fr):BQ i Q .ret fr:=h
theorem bqx {i:Nat} (h:Q .norm fr):BQ i Q (.exit i) fr:=by simp only [BQ,if_true];exact h
end
def chainOf:Nat → List AV → Nat → Option TV
 | _,[]=>fun _=>none
 | k,a :: as=>upd (chainOf (k + 1) as) k (some (.val a))
theorem chainOf_eq:∀ (l:List AV) (k i:Nat),chainOf k l i=if k ≤ i then (l[i - k]?).map TV.val else none
 | [],k,i=>by simp [chainOf]
 | a :: as,k,i=>by
   simp only [chainOf,upd]
   by_cases h:i=k
   ·subst h;simp
   rw [if_neg h,chainOf_eq as (k + 1) i]
   by_cases hk:k ≤ i
   ·rw [if_pos hk,if_pos (by omega)]
    have:i - k=(i - (k + 1)) + 1:=by omega
    rw [this,List.getElem?_cons_succ]
   rw [if_neg hk,if_neg (by omega)]
theorem start_eq (l:List AV) (s:Sg):Fr.start l s=⟨chainOf 0 l,fun _=>none,0,fun _=>false,[],s⟩:=by
 unfold Fr.start
 congr 1
 funext i
 rw [chainOf_eq]
 simp
theorem hcf {p:Pg} {f:Nat} {fn:AFun} {args:List AV} {s:Sg} {R:List AV → Sg → Prop} (ho:p.ov f=none) (hf:p.fn f=some fn) (hl:args.length=fn.np)
 (h:EX (callL p) fn.body ⟨chainOf 0 args,fun _=>none,0,fun _=>false,[],s⟩ (FQ (callDL p) fn R)):HC p f args s R:=by
 obtain ⟨e,fr',h1,h2⟩:=h
 rw [← start_eq] at h1
 have key:∀ s' l,runD (callDL p) fr'.df fr'.sg=some s' → evRs { fr' with sg:=s' } fn.res=some l → (finW (callDL p) fn (e,fr')=some (AV.ers l,s') ∨ ∃ i,e=.exit i):=by
  intro s' l k1 k2
  cases e with
  | exit i=>exact .inr ⟨i,rfl⟩
  | norm=>left;simp only [finW,k1,Obs,k2]
  | ret=>left;simp only [finW,k1,Obs,k2]
 cases e with
 | exit i=>exact h2.elim
 | norm =>
   obtain ⟨s',l,k1,k2,k3⟩:=h2
   refine ⟨AV.ers l,s',?_,k3⟩
   rw [callL_eq,ho,hf]
   simp only [Obs,runFnW,if_pos hl,h1]
   exact (key s' l k1 k2).resolve_right (by simp)
 | ret =>
   obtain ⟨s',l,k1,k2,k3⟩:=h2
   refine ⟨AV.ers l,s',?_,k3⟩
   rw [callL_eq,ho,hf]
   simp only [Obs,runFnW,if_pos hl,h1]
   exact (key s' l k1 k2).resolve_right (by simp)
theorem fqr {cd:Caller} {fn:AFun} {R:List AV → Sg → Prop} {E:Nat → Option TV} {L:Nat → Option (List AV)} {n:Nat} {v:Nat → Bool} {S:Sg} {l:List AV}
 (hl:evRs ⟨E,L,n,v,[],S⟩ fn.res=some l) (h:R (AV.ers l) S):FQ cd fn R .ret ⟨E,L,n,v,[],S⟩:=⟨S,l,rfl,hl,h⟩
theorem fqn {cd:Caller} {fn:AFun} {R:List AV → Sg → Prop} {E:Nat → Option TV} {L:Nat → Option (List AV)} {n:Nat} {v:Nat → Bool} {S:Sg} {l:List AV}
 (hl:evRs ⟨E,L,n,v,[],S⟩ fn.res=some l) (h:R (AV.ers l) S):FQ cd fn R .norm ⟨E,L,n,v,[],S⟩:=⟨S,l,rfl,hl,h⟩
section
variable {c:Caller} {E:Nat → Option TV} {L:Nat → Option (List AV)} {n:Nat} {v:Nat → Bool} {D:List (Nat × List AV)} {S:Sg} {l:List AIns} {Q:Fr → Prop}
theorem qk {E':Nat → Option TV} {L':Nat → Option (List AV)} {k kl:List Nat} {Q:Ex → Fr → Prop} (h1:keepE k E=E') (h2:keepE kl L=L') (h:Q .norm ⟨E',L',n,v,D,S⟩):HL c [] ⟨E,L,n,v,D,S⟩ (KQ k kl Q) :=
 ⟨_,rfl,by subst h1 h2;exact h⟩
theorem kn {α:Type} {e:Nat → Option α}:keepE [] e=fun _=>none:=rfl
theorem kc {α:Type} {e e':Nat → Option α} {k:Nat} {ks:List Nat} {x:α} (h:e k=some x) (h2:keepE ks e=e'):keepE (k :: ks) e=upd e' k (some x):=by simp only [keepE,h,h2]
theorem ko {α:Type} {e e':Nat → Option α} {k:Nat} {ks:List Nat} (h:e k=none) (h2:keepE ks e=e'):keepE (k :: ks) e=upd e' k none:=by simp only [keepE,h,h2]
theorem h0 (h:Q ⟨E,L,n,v,D,S⟩):HL c [] ⟨E,L,n,v,D,S⟩ Q:=⟨_,rfl,h⟩
theorem hop {i:AIns} {fr fr':Fr} (h:ins c i fr=some fr') (k:HL c l fr' Q):HL c (i :: l) fr Q:=by
 obtain ⟨x,h1,h2⟩:=k
 exact ⟨x,by simp only [exL,h];exact h1,h2⟩
theorem qp {d:Nat} {op:AOp} {t:TV} (h:aop c (some d) op ⟨E,L,n,v,D,S⟩=some (some t,⟨E,L,n,v,D,S⟩)) (k:HL c l ⟨upd E d (some t),L,n,v,D,S⟩ Q):HL c (⟨some d,none,op⟩ :: l) ⟨E,L,n,v,D,S⟩ Q :=
 hop (by simp only [ins,run1,h];rfl) k
theorem qb {d:Nat} {B:Bool} (k:∀ b,B=b → HL c l ⟨upd E d (some (.val (.lit (.bool b)))),L,n,v,D,S⟩ Q):HL c l ⟨upd E d (some (.val (.lit (.bool B)))),L,n,v,D,S⟩ Q:=k B rfl
theorem qg {d:Option Nat} {s:Nat} {b:Bool} {op:AOp} {fr:Fr} (h:fr.env s=some (.val (.lit (.bool b)))) (k:HL c (⟨d,none,op⟩ :: l) fr Q):HL c (⟨d,some (s,b),op⟩ :: l) fr Q:=by
 obtain ⟨x,h1,h2⟩:=k
 refine ⟨x,?_,h2⟩
 simp only [exL,ins,h,Obs,guardOf,if_true] at h1 ⊢
 exact h1
theorem qs {d s:Nat} {b:Bool} {y:Option Bool} {t:TV} {op:AOp} (h:E s=some t) (hy:guardOf t=some y) (hb:y ≠ some b) (k:HL c l ⟨upd E d (some .und),L,n,v,D,S⟩ Q):HL c (⟨some d,some (s,b),op⟩ :: l) ⟨E,L,n,v,D,S⟩ Q :=
 hop (by simp only [ins,h,Obs,hy,if_neg hb];rfl) k
theorem ln {l:List AV} (h:l=[]):l=[]:=h
theorem lc {l t t':List AV} {a:AV} (h:l=a :: t) (k:t=t'):l=a :: t':=by rw [h,k]
theorem hlda {d m:Nat} {h:Bool} {a:AO} {p:TV} {cs cs':List AV} (h1:ev E a=some p) (h2:ldAt ⟨E,L,n,v,D,S⟩ h (some m) p=some (.agg cs)) (h3:cs=cs')
 (k:HL c l ⟨upd E d (some (.val (.agg cs'))),L,n,v,D,S⟩ Q):HL c (⟨some d,none,.ld h (some m) a⟩ :: l) ⟨E,L,n,v,D,S⟩ Q:=by
 subst h3
 exact hop (by simp only [ins,run1,aop,h1,h2,Obs];rfl) k
theorem hbuild {d:Nat} {z:List AV} {ps:List (Nat × Nat × AO)} {q:List (Nat × Nat × AV)} {cs cs':List AV} (h1:evPs E ps=some q) (h2:fillA z q=some cs) (h3:cs=cs')
 (k:HL c l ⟨upd E d (some (.val (.agg cs'))),L,n,v,D,S⟩ Q):HL c (⟨some d,none,.build z ps⟩ :: l) ⟨E,L,n,v,D,S⟩ Q:=by
 subst h3
 exact hop (by simp only [ins,run1,aop,h1,h2,Obs];rfl) k
theorem hbsl {d sz:Nat} {ps:List AO} {q q':List AV} (h1:evVs E ps=some q) (h2:q.all (fun v=>v.cells.length == sz)=true) (h3:AV.ers q=q')
 (k:HL c l ⟨upd E d (some (.val (.slice .full sz q'))),L,n,v,D,S⟩ Q):HL c (⟨some d,none,.bsl sz ps⟩ :: l) ⟨E,L,n,v,D,S⟩ Q:=by
 subst h3
 exact hop (by simp only [ins,run1,aop,h1,Obs,h2,if_true];rfl) k
theorem hal {d:Nat} {z:List AV} {E':Nat → Option TV} (h1:dropL d E=E') (k:HL c l ⟨upd E' d (some (.loc d 0)),upd L d (some z),n,v,D,S⟩ Q):HL c (⟨some d,none,.alloc true z⟩ :: l) ⟨E,L,n,v,D,S⟩ Q:=by
 subst h1
 exact hop (by simp only [ins,run1,aop,Obs];rfl) k
theorem hbox {d:Nat} {x:AO} {y:AV} {cs:List AV} {E':Nat → Option TV} (h1:dropL d E=E') (h2:evV E x=some y) (h3:y.cells=cs)
 (k:HL c l ⟨upd E' d (some (.loc d 0)),upd L d (some cs),n,v,D,S⟩ Q):HL c (⟨some d,none,.box true x⟩ :: l) ⟨E,L,n,v,D,S⟩ Q:=by
 subst h1 h3
 exact hop (by simp only [ins,run1,aop,Obs,h2];rfl) k
def dropV (d:Nat):TV → Option TV
 | .loc j o=>if j=d then none else some (.loc j o)
 | x=>some x
theorem dn {d:Nat}:dropL d (fun _=>none)=fun _=>none:=rfl
theorem dc {d i:Nat} {e e':Nat → Option TV} {x:TV} (h:dropL d e=e') (hx:dropV d x=some x):dropL d (upd e i (some x))=upd e' i (some x):=by
 subst h
 funext j
 simp only [dropL,upd]
 by_cases hj:j=i
 ·simp only [if_pos hj]
  cases x with
  | loc q o =>
    simp only [dropV] at hx
    split at hx
    ·cases hx
    rename_i hne;simp [hne]
  | _=>rfl
 simp only [if_neg hj]
theorem hstl {m i off:Nat} {h:Bool} {a x:AO} {y:AV} {cs cs':List AV} (h1:ev E a=some (.loc i off)) (h2:evV E x=some y) (h3:L i=some cs) (h4:y.cells.length=m) (h5:off + y.cells.length ≤ cs.length) (h6:wr cs off y.cells=cs')
 (k:HL c l ⟨E,upd L i (some cs'),n,v,D,S⟩ Q):HL c (⟨none,none,.st h m a x⟩ :: l) ⟨E,L,n,v,D,S⟩ Q:=by
 subst h6
 exact hop (by simp only [ins,run1,aop,h1,h2,Obs,if_pos h4,stAt,h3,if_pos h5];rfl) k
theorem hsto {m id off:Nat} {a x:AO} {y:AV} {cs cs':List AV} (h1:ev E a=some (.val (.ptr id off))) (h2:evV E x=some y) (h3:S.ob id=some (.row cs)) (h4:y.cells.length=m) (h5:off + y.cells.length ≤ cs.length)
 (hn:∀ t sz xs,y ≠ .slice (.tip t) sz xs) (h6:wr cs off y.erT.cells=cs')
 (k:HL c l ⟨E,L,n,v,D,S.set id (.row cs')⟩ Q):HL c (⟨none,none,.st true m a x⟩ :: l) ⟨E,L,n,v,D,S⟩ Q:=by
 subst h6
 have e:∀ fr:Fr,stv y fr=(y.erT,fr):=by
  intro fr
  cases y with
  | slice o sz xs=>cases o <;> first | rfl | exact absurd rfl (hn _ _ _)
  | _=>rfl
 refine hop (fr':=⟨E,L,n,v,D,S.set id (.row (wr cs off y.erT.cells))⟩) ?_ k
 simp only [ins,run1,aop,h1,h2,Obs,if_pos h4,stAt,if_true,h3,if_pos h5,e]
 rfl
theorem hall {d:Nat} {z:List AV} (k:HL c l ⟨upd E d (some (.val (.ptr S.nx 0))),L,n,v,D,S.new (.row z)⟩ Q):HL c (⟨some d,none,.alloc false z⟩ :: l) ⟨E,L,n,v,D,S⟩ Q :=
 hop (by simp only [ins,run1,aop,Obs];rfl) k
theorem hboxo {d:Nat} {x:AO} {y:AV} {cs:List AV} (h2:evV E x=some y) (h3:AV.erTs y.cells=cs) (k:HL c l ⟨upd E d (some (.val (.ptr S.nx 0))),L,n,v,D,S.new (.row cs)⟩ Q):HL c (⟨some d,none,.box false x⟩ :: l) ⟨E,L,n,v,D,S⟩ Q:=by
 subst h3
 exact hop (by simp only [ins,run1,aop,Obs,h2];rfl) k
theorem hmkm {d:Nat} {kk:KK} (k:HL c l ⟨upd E d (some (.val (.map S.nx))),L,n,v,D,S.new (.map kk fun _=>none)⟩ Q):HL c (⟨some d,none,.mkm kk⟩ :: l) ⟨E,L,n,v,D,S⟩ Q :=
 hop (by simp only [ins,run1,aop,Obs];rfl) k
theorem hldo {d id off:Nat} {m:Option Nat} {a:AO} {y:AV} {cs:List AV} (h1:ev E a=some (.val (.ptr id off))) (h2:S.ob id=some (.row cs)) (h3:rd m cs off=some y)
 (k:HL c l ⟨upd E d (some (.val y)),L,n,v,D,S⟩ Q):HL c (⟨some d,none,.ld true m a⟩ :: l) ⟨E,L,n,v,D,S⟩ Q :=
 hop (by simp only [ins,run1,aop,h1,Obs,ldAt,if_true,h2,h3];rfl) k
theorem hlk {d id:Nat} {kk:KK} {z:AV} {mo ko:AO} {m:Value → Option AV} {ka:AV} {key:Value} (h1:evV E mo=some (.map id)) (h2:evV E ko=some ka) (h3:keyOf kk ka=some key) (h4:S.ob id=some (.map kk m))
 (k:HL c l ⟨upd E d (some (.val ((m key).getD z))),L,n,v,D,S⟩ Q):HL c (⟨some d,none,.lk kk z false mo ko⟩ :: l) ⟨E,L,n,v,D,S⟩ Q:=by
 have hk:KK.same kk kk=true:=by cases kk <;> simp [KK.same]
 exact hop (by simp only [ins,run1,aop,h1,h2,h3,Obs,lkOf,mapOf,h4,if_pos hk];rfl) k
theorem hmu {id:Nat} {kk:KK} {mo ko vo:AO} {m:Value → Option AV} {ka va:AV} {key:Value} (h1:evV E mo=some (.map id)) (h2:evV E ko=some ka) (h3:keyOf kk ka=some key) (h4:evV E vo=some va) (h5:S.ob id=some (.map kk m))
 (k:HL c l ⟨E,L,n,v,D,S.set id (.map kk (mset m key (some va.er)))⟩ Q):HL c (⟨none,none,.mu kk mo ko vo⟩ :: l) ⟨E,L,n,v,D,S⟩ Q:=by
 have hk:KK.same kk kk=true:=by cases kk <;> simp [KK.same]
 exact hop (by simp only [ins,run1,aop,h1,h2,h3,h4,Obs,mapOf,h5,if_pos hk];rfl) k
theorem hdl {id:Nat} {kk:KK} {mo ko:AO} {m:Value → Option AV} {ka:AV} {key:Value} (h1:evV E mo=some (.map id)) (h2:evV E ko=some ka) (h3:keyOf kk ka=some key) (h5:S.ob id=some (.map kk m))
 (k:HL c l ⟨E,L,n,v,D,S.set id (.map kk (mset m key none))⟩ Q):HL c (⟨none,none,.dl kk mo ko⟩ :: l) ⟨E,L,n,v,D,S⟩ Q:=by
 have hk:KK.same kk kk=true:=by cases kk <;> simp [KK.same]
 exact hop (by simp only [ins,run1,aop,h1,h2,h3,Obs,mapOf,h5,if_pos hk];rfl) k
theorem hia {d sz:Nat} {x i:AO} {o:Own} {xs:List AV} {j:Int} {kd:IntKind} {y:AV} {cs:List AV} (h1:evV E x=some (.slice o sz xs)) (h2:evV E i=some (.lit (.int kd j))) (h3:0 ≤ j) (h4:xs[j.toNat]?=some y) (h5:y.cells=cs)
 (k:HL c l ⟨upd E d (some (.val (.cptr cs 0))),L,n,v,D,S⟩ Q):HL c (⟨some d,none,.ia sz x i⟩ :: l) ⟨E,L,n,v,D,S⟩ Q:=by
 subst h5
 exact hop (by simp only [ins,run1,aop,h1,h2,Obs,asN,iaOf,true_and,if_pos h3,h4];rfl) k
theorem hixs {d:Nat} {x i:AO} {s:ByteArray} {j:Int} {kd:IntKind} {b:UInt8} (h1:evV E x=some (.lit (.string s))) (h2:evV E i=some (.lit (.int kd j))) (h3:0 ≤ j) (h4:s.data.toList[j.toNat]?=some b)
 (k:HL c l ⟨upd E d (some (.val (.lit (.int .u8 b.toNat)))),L,n,v,D,S⟩ Q):HL c (⟨some d,none,.ixs x i⟩ :: l) ⟨E,L,n,v,D,S⟩ Q :=
 hop (by simp only [ins,run1,aop,h1,h2,Obs,asN,ixsOf,if_pos h3,h4];rfl) k
theorem hap0 {d sz by_:Nat} {s x:AO} {o o':Own} {xs ys:List AV} (h1:evV E s=some (.slice o sz xs)) (h2:evV E x=some (.slice o' sz ys)) (hys:ys=[])
 (k:HL c l ⟨upd E d (some (.val (.slice o sz xs))),L,n,v,D,S⟩ Q):HL c (⟨some d,none,.app sz by_ s x⟩ :: l) ⟨E,L,n,v,D,S⟩ Q:=by
 subst hys
 exact hop (by simp only [ins,run1,aop,h1,h2,Obs,sliceOf,if_true,appOf];rfl) k
theorem hapF {d sz by_:Nat} {s x:AO} {o':Own} {xs ys:List AV} (h1:evV E s=some (.slice .full sz xs)) (h2:evV E x=some (.slice o' sz ys)) (hne:ys ≠ []) (hlen:(xs.length + ys.length) * by_ ≤ 2 ^ 47)
 (k:∀ v',v' n=true → (∀ j,j ≠ n → v' j=v j) → HL c l ⟨upd E d (some (.val (.slice (.tip n) sz (xs ++ ys)))),L,n + 1,v',D,S⟩ Q):HL c (⟨some d,none,.app sz by_ s x⟩ :: l) ⟨E,L,n,v,D,S⟩ Q:=by
 cases ys with
 | nil=>exact absurd rfl hne
 | cons y ys =>
   refine hop ?_ (k (fun j=>if j=n then true else v j) (by simp) (fun j hj=>by simp [hj]))
   simp only [ins,run1,aop,h1,h2,Obs,sliceOf,if_true,appOf,if_pos hlen,mayApp]
   rfl
theorem hapT {d sz by_ t:Nat} {s x:AO} {o':Own} {xs ys:List AV} (h1:evV E s=some (.slice (.tip t) sz xs)) (h2:evV E x=some (.slice o' sz ys)) (hv:v t=true) (hne:ys ≠ []) (hlen:(xs.length + ys.length) * by_ ≤ 2 ^ 47)
 (k:∀ v',v' n=true → (∀ j,j ≠ n → j ≠ t → v' j=v j) → HL c l ⟨upd E d (some (.val (.slice (.tip n) sz (xs ++ ys)))),L,n + 1,v',D,S⟩ Q):HL c (⟨some d,none,.app sz by_ s x⟩ :: l) ⟨E,L,n,v,D,S⟩ Q:=by
 cases ys with
 | nil=>exact absurd rfl hne
 | cons y ys =>
   refine hop ?_ (k (fun j=>if j=n then true else if j=t then false else v j) (by simp) (fun j hj hj'=>by simp [hj,hj']))
   simp only [ins,run1,aop,h1,h2,Obs,sliceOf,if_true,appOf,if_pos hlen,mayApp,hv]
   rfl
theorem hdf {f:AO} {as:List AO} {g:Nat} {a b q q':List AV} (h1:evV E f=some (.fn g a b)) (h2:evVs E as=some q) (h3:AV.ers (a ++ q ++ b)=q') (k:HL c l ⟨E,L,n,v,(g,q') :: D,S⟩ Q):HL c (⟨none,none,.dfr f as⟩ :: l) ⟨E,L,n,v,D,S⟩ Q:=by
 subst h3
 exact hop (by simp only [ins,run1,aop,h1,h2,Obs,dfrOf];rfl) k
end
theorem hcall {p:Pg} {E:Nat → Option TV} {L:Nat → Option (List AV)} {n:Nat} {v:Nat → Bool} {D:List (Nat × List AV)} {S:Sg} {l:List AIns} {Q:Fr → Prop} {d:Nat} {f:AO} {as:List AO} {g:Nat} {a b q q':List AV} {R:List AV → Sg → Prop}
 (h1:evV E f=some (.fn g a b)) (h2:evVs E as=some q) (h3:AV.ers (a ++ q ++ b)=q') (h4:HC p g q' S R) (k:∀ res S',R res S' → HL (callL p) l ⟨upd E d (some (toTV res)),L,n,v,D,S'⟩ Q) :
 HL (callL p) (⟨some d,none,.call f as⟩ :: l) ⟨E,L,n,v,D,S⟩ Q:=by
 subst h3
 obtain ⟨res,S',h5,h6⟩:=h4
 exact hop (by simp only [ins,run1,aop,h1,h2,Obs,callOf,h5];rfl) (k res S' h6)
structure Ext (s s':Sg):Prop where
 nx:s.nx ≤ s'.nx
 ob:∀ i,i < s.nx → s'.ob i=s.ob i
 gn:s.gn ≤ s'.gn
 gl:∀ g,g < s.gn → s'.gl g=s.gl g
 Q:s'.Q=s.Q
theorem Ext.refl (s:Sg):Ext s s:=⟨Nat.le_refl _,fun _ _=>rfl,Nat.le_refl _,fun _ _=>rfl,rfl⟩
theorem Ext.trans {a b c:Sg} (h:Ext a b) (k:Ext b c):Ext a c :=
 ⟨Nat.le_trans h.nx k.nx,fun i hi=>(k.ob i (Nat.lt_of_lt_of_le hi h.nx)).trans (h.ob i hi),Nat.le_trans h.gn k.gn,fun g hg=>(k.gl g (Nat.lt_of_lt_of_le hg h.gn)).trans (h.gl g hg),k.Q.trans h.Q⟩
theorem Ext.new {s:Sg} {o:AObj}:Ext s (s.new o):=⟨Nat.le_succ _,fun i hi=>by simp [Sg.new,upd,Nat.ne_of_lt hi],Nat.le_refl _,fun _ _=>rfl,rfl⟩
theorem Ext.set {s s':Sg} {i:Nat} {o:AObj} (h:Ext s s') (hi:s.nx ≤ i):Ext s (s'.set i o) :=
 ⟨h.nx,fun j hj=>by simp only [Sg.set];rw [upd_ne _ _ (by omega)];exact h.ob j hj,h.gn,h.gl,h.Q⟩
abbrev e0 {α:Type}:Nat → Option α:=fun _=>none
section
variable {c:Caller} {l:List AIns} {E:Nat → Option TV} {L:Nat → Option (List AV)} {n:Nat} {v:Nat → Bool} {D:List (Nat × List AV)} {S:Sg} {Q:Fr → Prop}
def gsk (E:Nat → Option TV) (s:Nat) (b:Bool):Bool:=match E s with
 | some t=>(match guardOf t with
   | some y=>y != some b
   | none=>false)
 | none=>false
theorem zq1 {d s:Nat} {b:Bool} {op:AOp} (h:gsk E s b=true) (k:HL c l ⟨upd E d (some .und),L,n,v,D,S⟩ Q):HL c (⟨some d,some (s,b),op⟩ :: l) ⟨E,L,n,v,D,S⟩ Q:=by
 unfold gsk at h
 split at h
 ·rename_i t ht
  split at h
  ·rename_i y hy
   exact qs ht hy (by simpa using h) k
  cases h
 cases h
theorem p2 {α β:Type} {a c:α} {b d:β} (h:(a,b)=(c,d)):a=c ∧ b=d:=by
 cases h
 exact ⟨rfl,rfl⟩
theorem dq2 {d:Nat} {i1 i2:Nat} {x1 x2:TV} (h:(dropV d x1,dropV d x2)=(some x1,some x2)):dropL d (upd (upd ((fun _=>none)) i1 (some x1)) i2 (some x2))=upd (upd ((fun _=>none)) i1 (some x1)) i2 (some x2):=dc (dc dn ((p2 h).1)) ((p2 h).2)
theorem dq3 {d:Nat} {i1 i2 i3:Nat} {x1 x2 x3:TV} (h:(dropV d x1,dropV d x2,dropV d x3)=(some x1,some x2,some x3)):dropL d (upd (upd (upd ((fun _=>none)) i1 (some x1)) i2 (some x2)) i3 (some x3))=upd (upd (upd ((fun _=>none)) i1 (some x1)) i2 (some x2)) i3 (some x3):=dc (dc (dc dn ((p2 h).1)) ((p2 (p2 h).2).1)) ((p2 (p2 h).2).2)
theorem dq4 {d:Nat} {i1 i2 i3 i4:Nat} {x1 x2 x3 x4:TV} (h:(dropV d x1,dropV d x2,dropV d x3,dropV d x4)=(some x1,some x2,some x3,some x4)):dropL d (upd (upd (upd (upd ((fun _=>none)) i1 (some x1)) i2 (some x2)) i3 (some x3)) i4 (some x4))=upd (upd (upd (upd ((fun _=>none)) i1 (some x1)) i2 (some x2)) i3 (some x3)) i4 (some x4):=dc (dc (dc (dc dn ((p2 h).1)) ((p2 (p2 h).2).1)) ((p2 (p2 (p2 h).2).2).1)) ((p2 (p2 (p2 h).2).2).2)
theorem dq5 {d:Nat} {i1 i2 i3 i4 i5:Nat} {x1 x2 x3 x4 x5:TV} (h:(dropV d x1,dropV d x2,dropV d x3,dropV d x4,dropV d x5)=(some x1,some x2,some x3,some x4,some x5)):dropL d (upd (upd (upd (upd (upd ((fun _=>none)) i1 (some x1)) i2 (some x2)) i3 (some x3)) i4 (some x4)) i5 (some x5))=upd (upd (upd (upd (upd ((fun _=>none)) i1 (some x1)) i2 (some x2)) i3 (some x3)) i4 (some x4)) i5 (some x5):=dc (dc (dc (dc (dc dn ((p2 h).1)) ((p2 (p2 h).2).1)) ((p2 (p2 (p2 h).2).2).1)) ((p2 (p2 (p2 (p2 h).2).2).2).1)) ((p2 (p2 (p2 (p2 h).2).2).2).2)
theorem dq6 {d:Nat} {i1 i2 i3 i4 i5 i6:Nat} {x1 x2 x3 x4 x5 x6:TV} (h:(dropV d x1,dropV d x2,dropV d x3,dropV d x4,dropV d x5,dropV d x6)=(some x1,some x2,some x3,some x4,some x5,some x6)):dropL d (upd (upd (upd (upd (upd (upd ((fun _=>none)) i1 (some x1)) i2 (some x2)) i3 (some x3)) i4 (some x4)) i5 (some x5)) i6 (some x6))=upd (upd (upd (upd (upd (upd ((fun _=>none)) i1 (some x1)) i2 (some x2)) i3 (some x3)) i4 (some x4)) i5 (some x5)) i6 (some x6):=dc (dc (dc (dc (dc (dc dn ((p2 h).1)) ((p2 (p2 h).2).1)) ((p2 (p2 (p2 h).2).2).1)) ((p2 (p2 (p2 (p2 h).2).2).2).1)) ((p2 (p2 (p2 (p2 (p2 h).2).2).2).2).1)) ((p2 (p2 (p2 (p2 (p2 h).2).2).2).2).2)
theorem dq7 {d:Nat} {i1 i2 i3 i4 i5 i6 i7:Nat} {x1 x2 x3 x4 x5 x6 x7:TV} (h:(dropV d x1,dropV d x2,dropV d x3,dropV d x4,dropV d x5,dropV d x6,dropV d x7)=(some x1,some x2,some x3,some x4,some x5,some x6,some x7)):dropL d (upd (upd (upd (upd (upd (upd (upd ((fun _=>none)) i1 (some x1)) i2 (some x2)) i3 (some x3)) i4 (some x4)) i5 (some x5)) i6 (some x6)) i7 (some x7))=upd (upd (upd (upd (upd (upd (upd ((fun _=>none)) i1 (some x1)) i2 (some x2)) i3 (some x3)) i4 (some x4)) i5 (some x5)) i6 (some x6)) i7 (some x7):=dc (dc (dc (dc (dc (dc (dc dn ((p2 h).1)) ((p2 (p2 h).2).1)) ((p2 (p2 (p2 h).2).2).1)) ((p2 (p2 (p2 (p2 h).2).2).2).1)) ((p2 (p2 (p2 (p2 (p2 h).2).2).2).2).1)) ((p2 (p2 (p2 (p2 (p2 (p2 h).2).2).2).2).2).1)) ((p2 (p2 (p2 (p2 (p2 (p2 h).2).2).2).2).2).2)
theorem dq10 {d:Nat} {i1 i2 i3 i4 i5 i6 i7 i8 i9 i10:Nat} {x1 x2 x3 x4 x5 x6 x7 x8 x9 x10:TV} (h:(dropV d x1,dropV d x2,dropV d x3,dropV d x4,dropV d x5,dropV d x6,dropV d x7,dropV d x8,dropV d x9,dropV d x10)=(some x1,some x2,some x3,some x4,some x5,some x6,some x7,some x8,some x9,some x10)):dropL d (upd (upd (upd (upd (upd (upd (upd (upd (upd (upd ((fun _=>none)) i1 (some x1)) i2 (some x2)) i3 (some x3)) i4 (some x4)) i5 (some x5)) i6 (some x6)) i7 (some x7)) i8 (some x8)) i9 (some x9)) i10 (some x10))=upd (upd (upd (upd (upd (upd (upd (upd (upd (upd ((fun _=>none)) i1 (some x1)) i2 (some x2)) i3 (some x3)) i4 (some x4)) i5 (some x5)) i6 (some x6)) i7 (some x7)) i8 (some x8)) i9 (some x9)) i10 (some x10):=dc (dc (dc (dc (dc (dc (dc (dc (dc (dc dn ((p2 h).1)) ((p2 (p2 h).2).1)) ((p2 (p2 (p2 h).2).2).1)) ((p2 (p2 (p2 (p2 h).2).2).2).1)) ((p2 (p2 (p2 (p2 (p2 h).2).2).2).2).1)) ((p2 (p2 (p2 (p2 (p2 (p2 h).2).2).2).2).2).1)) ((p2 (p2 (p2 (p2 (p2 (p2 (p2 h).2).2).2).2).2).2).1)) ((p2 (p2 (p2 (p2 (p2 (p2 (p2 (p2 h).2).2).2).2).2).2).2).1)) ((p2 (p2 (p2 (p2 (p2 (p2 (p2 (p2 (p2 h).2).2).2).2).2).2).2).2).1)) ((p2 (p2 (p2 (p2 (p2 (p2 (p2 (p2 (p2 h).2).2).2).2).2).2).2).2).2)
theorem dq14 {d:Nat} {i1 i2 i3 i4 i5 i6 i7 i8 i9 i10 i11 i12 i13 i14:Nat} {x1 x2 x3 x4 x5 x6 x7 x8 x9 x10 x11 x12 x13 x14:TV} (h:(dropV d x1,dropV d x2,dropV d x3,dropV d x4,dropV d x5,dropV d x6,dropV d x7,dropV d x8,dropV d x9,dropV d x10,dropV d x11,dropV d x12,dropV d x13,dropV d x14)=(some x1,some x2,some x3,some x4,some x5,some x6,some x7,some x8,some x9,some x10,some x11,some x12,some x13,some x14)):dropL d (upd (upd (upd (upd (upd (upd (upd (upd (upd (upd (upd (upd (upd (upd ((fun _=>none)) i1 (some x1)) i2 (some x2)) i3 (some x3)) i4 (some x4)) i5 (some x5)) i6 (some x6)) i7 (some x7)) i8 (some x8)) i9 (some x9)) i10 (some x10)) i11 (some x11)) i12 (some x12)) i13 (some x13)) i14 (some x14))=upd (upd (upd (upd (upd (upd (upd (upd (upd (upd (upd (upd (upd (upd ((fun _=>none)) i1 (some x1)) i2 (some x2)) i3 (some x3)) i4 (some x4)) i5 (some x5)) i6 (some x6)) i7 (some x7)) i8 (some x8)) i9 (some x9)) i10 (some x10)) i11 (some x11)) i12 (some x12)) i13 (some x13)) i14 (some x14):=dc (dc (dc (dc (dc (dc (dc (dc (dc (dc (dc (dc (dc (dc dn ((p2 h).1)) ((p2 (p2 h).2).1)) ((p2 (p2 (p2 h).2).2).1)) ((p2 (p2 (p2 (p2 h).2).2).2).1)) ((p2 (p2 (p2 (p2 (p2 h).2).2).2).2).1)) ((p2 (p2 (p2 (p2 (p2 (p2 h).2).2).2).2).2).1)) ((p2 (p2 (p2 (p2 (p2 (p2 (p2 h).2).2).2).2).2).2).1)) ((p2 (p2 (p2 (p2 (p2 (p2 (p2 (p2 h).2).2).2).2).2).2).2).1)) ((p2 (p2 (p2 (p2 (p2 (p2 (p2 (p2 (p2 h).2).2).2).2).2).2).2).2).1)) ((p2 (p2 (p2 (p2 (p2 (p2 (p2 (p2 (p2 (p2 h).2).2).2).2).2).2).2).2).2).1)) ((p2 (p2 (p2 (p2 (p2 (p2 (p2 (p2 (p2 (p2 (p2 h).2).2).2).2).2).2).2).2).2).2).1)) ((p2 (p2 (p2 (p2 (p2 (p2 (p2 (p2 (p2 (p2 (p2 (p2 h).2).2).2).2).2).2).2).2).2).2).2).1)) ((p2 (p2 (p2 (p2 (p2 (p2 (p2 (p2 (p2 (p2 (p2 (p2 (p2 h).2).2).2).2).2).2).2).2).2).2).2).2).1)) ((p2 (p2 (p2 (p2 (p2 (p2 (p2 (p2 (p2 (p2 (p2 (p2 (p2 h).2).2).2).2).2).2).2).2).2).2).2).2).2)
theorem dq16 {d:Nat} {i1 i2 i3 i4 i5 i6 i7 i8 i9 i10 i11 i12 i13 i14 i15 i16:Nat} {x1 x2 x3 x4 x5 x6 x7 x8 x9 x10 x11 x12 x13 x14 x15 x16:TV} (h:(dropV d x1,dropV d x2,dropV d x3,dropV d x4,dropV d x5,dropV d x6,dropV d x7,dropV d x8,dropV d x9,dropV d x10,dropV d x11,dropV d x12,dropV d x13,dropV d x14,dropV d x15,dropV d x16)=(some x1,some x2,some x3,some x4,some x5,some x6,some x7,some x8,some x9,some x10,some x11,some x12,some x13,some x14,some x15,some x16)):dropL d (upd (upd (upd (upd (upd (upd (upd (upd (upd (upd (upd (upd (upd (upd (upd (upd ((fun _=>none)) i1 (some x1)) i2 (some x2)) i3 (some x3)) i4 (some x4)) i5 (some x5)) i6 (some x6)) i7 (some x7)) i8 (some x8)) i9 (some x9)) i10 (some x10)) i11 (some x11)) i12 (some x12)) i13 (some x13)) i14 (some x14)) i15 (some x15)) i16 (some x16))=upd (upd (upd (upd (upd (upd (upd (upd (upd (upd (upd (upd (upd (upd (upd (upd ((fun _=>none)) i1 (some x1)) i2 (some x2)) i3 (some x3)) i4 (some x4)) i5 (some x5)) i6 (some x6)) i7 (some x7)) i8 (some x8)) i9 (some x9)) i10 (some x10)) i11 (some x11)) i12 (some x12)) i13 (some x13)) i14 (some x14)) i15 (some x15)) i16 (some x16):=dc (dc (dc (dc (dc (dc (dc (dc (dc (dc (dc (dc (dc (dc (dc (dc dn ((p2 h).1)) ((p2 (p2 h).2).1)) ((p2 (p2 (p2 h).2).2).1)) ((p2 (p2 (p2 (p2 h).2).2).2).1)) ((p2 (p2 (p2 (p2 (p2 h).2).2).2).2).1)) ((p2 (p2 (p2 (p2 (p2 (p2 h).2).2).2).2).2).1)) ((p2 (p2 (p2 (p2 (p2 (p2 (p2 h).2).2).2).2).2).2).1)) ((p2 (p2 (p2 (p2 (p2 (p2 (p2 (p2 h).2).2).2).2).2).2).2).1)) ((p2 (p2 (p2 (p2 (p2 (p2 (p2 (p2 (p2 h).2).2).2).2).2).2).2).2).1)) ((p2 (p2 (p2 (p2 (p2 (p2 (p2 (p2 (p2 (p2 h).2).2).2).2).2).2).2).2).2).1)) ((p2 (p2 (p2 (p2 (p2 (p2 (p2 (p2 (p2 (p2 (p2 h).2).2).2).2).2).2).2).2).2).2).1)) ((p2 (p2 (p2 (p2 (p2 (p2 (p2 (p2 (p2 (p2 (p2 (p2 h).2).2).2).2).2).2).2).2).2).2).2).1)) ((p2 (p2 (p2 (p2 (p2 (p2 (p2 (p2 (p2 (p2 (p2 (p2 (p2 h).2).2).2).2).2).2).2).2).2).2).2).2).1)) ((p2 (p2 (p2 (p2 (p2 (p2 (p2 (p2 (p2 (p2 (p2 (p2 (p2 (p2 h).2).2).2).2).2).2).2).2).2).2).2).2).2).1)) ((p2 (p2 (p2 (p2 (p2 (p2 (p2 (p2 (p2 (p2 (p2 (p2 (p2 (p2 (p2 h).2).2).2).2).2).2).2).2).2).2).2).2).2).2).1)) ((p2 (p2 (p2 (p2 (p2 (p2 (p2 (p2 (p2 (p2 (p2 (p2 (p2 (p2 (p2 h).2).2).2).2).2).2).2).2).2).2).2).2).2).2).2)
theorem kq1 {α:Type} {e:Nat → Option α} {i1:Nat} {x1:α} (h:e i1=some x1):keepE [i1] e=upd ((fun _=>none)) i1 (some x1):=kc (h) kn
theorem kq2 {α:Type} {e:Nat → Option α} {i1 i2:Nat} {x1 x2:α} (h:(e i1,e i2)=(some x1,some x2)):keepE [i1,i2] e=upd (upd ((fun _=>none)) i2 (some x2)) i1 (some x1):=kc ((p2 h).1) (kc ((p2 h).2) kn)
theorem kq3 {α:Type} {e:Nat → Option α} {i1 i2 i3:Nat} {x1 x2 x3:α} (h:(e i1,e i2,e i3)=(some x1,some x2,some x3)):keepE [i1,i2,i3] e=upd (upd (upd ((fun _=>none)) i3 (some x3)) i2 (some x2)) i1 (some x1):=kc ((p2 h).1) (kc ((p2 (p2 h).2).1) (kc ((p2 (p2 h).2).2) kn))
theorem kq4 {α:Type} {e:Nat → Option α} {i1 i2 i3 i4:Nat} {x1 x2 x3 x4:α} (h:(e i1,e i2,e i3,e i4)=(some x1,some x2,some x3,some x4)):keepE [i1,i2,i3,i4] e=upd (upd (upd (upd ((fun _=>none)) i4 (some x4)) i3 (some x3)) i2 (some x2)) i1 (some x1):=kc ((p2 h).1) (kc ((p2 (p2 h).2).1) (kc ((p2 (p2 (p2 h).2).2).1) (kc ((p2 (p2 (p2 h).2).2).2) kn)))
theorem kq5 {α:Type} {e:Nat → Option α} {i1 i2 i3 i4 i5:Nat} {x1 x2 x3 x4 x5:α} (h:(e i1,e i2,e i3,e i4,e i5)=(some x1,some x2,some x3,some x4,some x5)):keepE [i1,i2,i3,i4,i5] e=upd (upd (upd (upd (upd ((fun _=>none)) i5 (some x5)) i4 (some x4)) i3 (some x3)) i2 (some x2)) i1 (some x1):=kc ((p2 h).1) (kc ((p2 (p2 h).2).1) (kc ((p2 (p2 (p2 h).2).2).1) (kc ((p2 (p2 (p2 (p2 h).2).2).2).1) (kc ((p2 (p2 (p2 (p2 h).2).2).2).2) kn))))
theorem kq6 {α:Type} {e:Nat → Option α} {i1 i2 i3 i4 i5 i6:Nat} {x1 x2 x3 x4 x5 x6:α} (h:(e i1,e i2,e i3,e i4,e i5,e i6)=(some x1,some x2,some x3,some x4,some x5,some x6)):keepE [i1,i2,i3,i4,i5,i6] e=upd (upd (upd (upd (upd (upd ((fun _=>none)) i6 (some x6)) i5 (some x5)) i4 (some x4)) i3 (some x3)) i2 (some x2)) i1 (some x1):=kc ((p2 h).1) (kc ((p2 (p2 h).2).1) (kc ((p2 (p2 (p2 h).2).2).1) (kc ((p2 (p2 (p2 (p2 h).2).2).2).1) (kc ((p2 (p2 (p2 (p2 (p2 h).2).2).2).2).1) (kc ((p2 (p2 (p2 (p2 (p2 h).2).2).2).2).2) kn)))))
theorem kq7 {α:Type} {e:Nat → Option α} {i1 i2 i3 i4 i5 i6 i7:Nat} {x1 x2 x3 x4 x5 x6 x7:α} (h:(e i1,e i2,e i3,e i4,e i5,e i6,e i7)=(some x1,some x2,some x3,some x4,some x5,some x6,some x7)):keepE [i1,i2,i3,i4,i5,i6,i7] e=upd (upd (upd (upd (upd (upd (upd ((fun _=>none)) i7 (some x7)) i6 (some x6)) i5 (some x5)) i4 (some x4)) i3 (some x3)) i2 (some x2)) i1 (some x1):=kc ((p2 h).1) (kc ((p2 (p2 h).2).1) (kc ((p2 (p2 (p2 h).2).2).1) (kc ((p2 (p2 (p2 (p2 h).2).2).2).1) (kc ((p2 (p2 (p2 (p2 (p2 h).2).2).2).2).1) (kc ((p2 (p2 (p2 (p2 (p2 (p2 h).2).2).2).2).2).1) (kc ((p2 (p2 (p2 (p2 (p2 (p2 h).2).2).2).2).2).2) kn))))))
theorem kq8 {α:Type} {e:Nat → Option α} {i1 i2 i3 i4 i5 i6 i7 i8:Nat} {x1 x2 x3 x4 x5 x6 x7 x8:α} (h:(e i1,e i2,e i3,e i4,e i5,e i6,e i7,e i8)=(some x1,some x2,some x3,some x4,some x5,some x6,some x7,some x8)):keepE [i1,i2,i3,i4,i5,i6,i7,i8] e=upd (upd (upd (upd (upd (upd (upd (upd ((fun _=>none)) i8 (some x8)) i7 (some x7)) i6 (some x6)) i5 (some x5)) i4 (some x4)) i3 (some x3)) i2 (some x2)) i1 (some x1):=kc ((p2 h).1) (kc ((p2 (p2 h).2).1) (kc ((p2 (p2 (p2 h).2).2).1) (kc ((p2 (p2 (p2 (p2 h).2).2).2).1) (kc ((p2 (p2 (p2 (p2 (p2 h).2).2).2).2).1) (kc ((p2 (p2 (p2 (p2 (p2 (p2 h).2).2).2).2).2).1) (kc ((p2 (p2 (p2 (p2 (p2 (p2 (p2 h).2).2).2).2).2).2).1) (kc ((p2 (p2 (p2 (p2 (p2 (p2 (p2 h).2).2).2).2).2).2).2) kn)))))))
theorem kq9 {α:Type} {e:Nat → Option α} {i1 i2 i3 i4 i5 i6 i7 i8 i9:Nat} {x1 x2 x3 x4 x5 x6 x7 x8 x9:α} (h:(e i1,e i2,e i3,e i4,e i5,e i6,e i7,e i8,e i9)=(some x1,some x2,some x3,some x4,some x5,some x6,some x7,some x8,some x9)):keepE [i1,i2,i3,i4,i5,i6,i7,i8,i9] e=upd (upd (upd (upd (upd (upd (upd (upd (upd ((fun _=>none)) i9 (some x9)) i8 (some x8)) i7 (some x7)) i6 (some x6)) i5 (some x5)) i4 (some x4)) i3 (some x3)) i2 (some x2)) i1 (some x1):=kc ((p2 h).1) (kc ((p2 (p2 h).2).1) (kc ((p2 (p2 (p2 h).2).2).1) (kc ((p2 (p2 (p2 (p2 h).2).2).2).1) (kc ((p2 (p2 (p2 (p2 (p2 h).2).2).2).2).1) (kc ((p2 (p2 (p2 (p2 (p2 (p2 h).2).2).2).2).2).1) (kc ((p2 (p2 (p2 (p2 (p2 (p2 (p2 h).2).2).2).2).2).2).1) (kc ((p2 (p2 (p2 (p2 (p2 (p2 (p2 (p2 h).2).2).2).2).2).2).2).1) (kc ((p2 (p2 (p2 (p2 (p2 (p2 (p2 (p2 h).2).2).2).2).2).2).2).2) kn))))))))
theorem kq10 {α:Type} {e:Nat → Option α} {i1 i2 i3 i4 i5 i6 i7 i8 i9 i10:Nat} {x1 x2 x3 x4 x5 x6 x7 x8 x9 x10:α} (h:(e i1,e i2,e i3,e i4,e i5,e i6,e i7,e i8,e i9,e i10)=(some x1,some x2,some x3,some x4,some x5,some x6,some x7,some x8,some x9,some x10)):keepE [i1,i2,i3,i4,i5,i6,i7,i8,i9,i10] e=upd (upd (upd (upd (upd (upd (upd (upd (upd (upd ((fun _=>none)) i10 (some x10)) i9 (some x9)) i8 (some x8)) i7 (some x7)) i6 (some x6)) i5 (some x5)) i4 (some x4)) i3 (some x3)) i2 (some x2)) i1 (some x1):=kc ((p2 h).1) (kc ((p2 (p2 h).2).1) (kc ((p2 (p2 (p2 h).2).2).1) (kc ((p2 (p2 (p2 (p2 h).2).2).2).1) (kc ((p2 (p2 (p2 (p2 (p2 h).2).2).2).2).1) (kc ((p2 (p2 (p2 (p2 (p2 (p2 h).2).2).2).2).2).1) (kc ((p2 (p2 (p2 (p2 (p2 (p2 (p2 h).2).2).2).2).2).2).1) (kc ((p2 (p2 (p2 (p2 (p2 (p2 (p2 (p2 h).2).2).2).2).2).2).2).1) (kc ((p2 (p2 (p2 (p2 (p2 (p2 (p2 (p2 (p2 h).2).2).2).2).2).2).2).2).1) (kc ((p2 (p2 (p2 (p2 (p2 (p2 (p2 (p2 (p2 h).2).2).2).2).2).2).2).2).2) kn)))))))))
theorem kq11 {α:Type} {e:Nat → Option α} {i1 i2 i3 i4 i5 i6 i7 i8 i9 i10 i11:Nat} {x1 x2 x3 x4 x5 x6 x7 x8 x9 x10 x11:α} (h:(e i1,e i2,e i3,e i4,e i5,e i6,e i7,e i8,e i9,e i10,e i11)=(some x1,some x2,some x3,some x4,some x5,some x6,some x7,some x8,some x9,some x10,some x11)):keepE [i1,i2,i3,i4,i5,i6,i7,i8,i9,i10,i11] e=upd (upd (upd (upd (upd (upd (upd (upd (upd (upd (upd ((fun _=>none)) i11 (some x11)) i10 (some x10)) i9 (some x9)) i8 (some x8)) i7 (some x7)) i6 (some x6)) i5 (some x5)) i4 (some x4)) i3 (some x3)) i2 (some x2)) i1 (some x1):=kc ((p2 h).1) (kc ((p2 (p2 h).2).1) (kc ((p2 (p2 (p2 h).2).2).1) (kc ((p2 (p2 (p2 (p2 h).2).2).2).1) (kc ((p2 (p2 (p2 (p2 (p2 h).2).2).2).2).1) (kc ((p2 (p2 (p2 (p2 (p2 (p2 h).2).2).2).2).2).1) (kc ((p2 (p2 (p2 (p2 (p2 (p2 (p2 h).2).2).2).2).2).2).1) (kc ((p2 (p2 (p2 (p2 (p2 (p2 (p2 (p2 h).2).2).2).2).2).2).2).1) (kc ((p2 (p2 (p2 (p2 (p2 (p2 (p2 (p2 (p2 h).2).2).2).2).2).2).2).2).1) (kc ((p2 (p2 (p2 (p2 (p2 (p2 (p2 (p2 (p2 (p2 h).2).2).2).2).2).2).2).2).2).1) (kc ((p2 (p2 (p2 (p2 (p2 (p2 (p2 (p2 (p2 (p2 h).2).2).2).2).2).2).2).2).2).2) kn))))))))))
theorem kq12 {α:Type} {e:Nat → Option α} {i1 i2 i3 i4 i5 i6 i7 i8 i9 i10 i11 i12:Nat} {x1 x2 x3 x4 x5 x6 x7 x8 x9 x10 x11 x12:α} (h:(e i1,e i2,e i3,e i4,e i5,e i6,e i7,e i8,e i9,e i10,e i11,e i12)=(some x1,some x2,some x3,some x4,some x5,some x6,some x7,some x8,some x9,some x10,some x11,some x12)):keepE [i1,i2,i3,i4,i5,i6,i7,i8,i9,i10,i11,i12] e=upd (upd (upd (upd (upd (upd (upd (upd (upd (upd (upd (upd ((fun _=>none)) i12 (some x12)) i11 (some x11)) i10 (some x10)) i9 (some x9)) i8 (some x8)) i7 (some x7)) i6 (some x6)) i5 (some x5)) i4 (some x4)) i3 (some x3)) i2 (some x2)) i1 (some x1):=kc ((p2 h).1) (kc ((p2 (p2 h).2).1) (kc ((p2 (p2 (p2 h).2).2).1) (kc ((p2 (p2 (p2 (p2 h).2).2).2).1) (kc ((p2 (p2 (p2 (p2 (p2 h).2).2).2).2).1) (kc ((p2 (p2 (p2 (p2 (p2 (p2 h).2).2).2).2).2).1) (kc ((p2 (p2 (p2 (p2 (p2 (p2 (p2 h).2).2).2).2).2).2).1) (kc ((p2 (p2 (p2 (p2 (p2 (p2 (p2 (p2 h).2).2).2).2).2).2).2).1) (kc ((p2 (p2 (p2 (p2 (p2 (p2 (p2 (p2 (p2 h).2).2).2).2).2).2).2).2).1) (kc ((p2 (p2 (p2 (p2 (p2 (p2 (p2 (p2 (p2 (p2 h).2).2).2).2).2).2).2).2).2).1) (kc ((p2 (p2 (p2 (p2 (p2 (p2 (p2 (p2 (p2 (p2 (p2 h).2).2).2).2).2).2).2).2).2).2).1) (kc ((p2 (p2 (p2 (p2 (p2 (p2 (p2 (p2 (p2 (p2 (p2 h).2).2).2).2).2).2).2).2).2).2).2) kn)))))))))))
theorem kq13 {α:Type} {e:Nat → Option α} {i1 i2 i3 i4 i5 i6 i7 i8 i9 i10 i11 i12 i13:Nat} {x1 x2 x3 x4 x5 x6 x7 x8 x9 x10 x11 x12 x13:α} (h:(e i1,e i2,e i3,e i4,e i5,e i6,e i7,e i8,e i9,e i10,e i11,e i12,e i13)=(some x1,some x2,some x3,some x4,some x5,some x6,some x7,some x8,some x9,some x10,some x11,some x12,some x13)):keepE [i1,i2,i3,i4,i5,i6,i7,i8,i9,i10,i11,i12,i13] e=upd (upd (upd (upd (upd (upd (upd (upd (upd (upd (upd (upd (upd ((fun _=>none)) i13 (some x13)) i12 (some x12)) i11 (some x11)) i10 (some x10)) i9 (some x9)) i8 (some x8)) i7 (some x7)) i6 (some x6)) i5 (some x5)) i4 (some x4)) i3 (some x3)) i2 (some x2)) i1 (some x1):=kc ((p2 h).1) (kc ((p2 (p2 h).2).1) (kc ((p2 (p2 (p2 h).2).2).1) (kc ((p2 (p2 (p2 (p2 h).2).2).2).1) (kc ((p2 (p2 (p2 (p2 (p2 h).2).2).2).2).1) (kc ((p2 (p2 (p2 (p2 (p2 (p2 h).2).2).2).2).2).1) (kc ((p2 (p2 (p2 (p2 (p2 (p2 (p2 h).2).2).2).2).2).2).1) (kc ((p2 (p2 (p2 (p2 (p2 (p2 (p2 (p2 h).2).2).2).2).2).2).2).1) (kc ((p2 (p2 (p2 (p2 (p2 (p2 (p2 (p2 (p2 h).2).2).2).2).2).2).2).2).1) (kc ((p2 (p2 (p2 (p2 (p2 (p2 (p2 (p2 (p2 (p2 h).2).2).2).2).2).2).2).2).2).1) (kc ((p2 (p2 (p2 (p2 (p2 (p2 (p2 (p2 (p2 (p2 (p2 h).2).2).2).2).2).2).2).2).2).2).1) (kc ((p2 (p2 (p2 (p2 (p2 (p2 (p2 (p2 (p2 (p2 (p2 (p2 h).2).2).2).2).2).2).2).2).2).2).2).1) (kc ((p2 (p2 (p2 (p2 (p2 (p2 (p2 (p2 (p2 (p2 (p2 (p2 h).2).2).2).2).2).2).2).2).2).2).2).2) kn))))))))))))
theorem kq14 {α:Type} {e:Nat → Option α} {i1 i2 i3 i4 i5 i6 i7 i8 i9 i10 i11 i12 i13 i14:Nat} {x1 x2 x3 x4 x5 x6 x7 x8 x9 x10 x11 x12 x13 x14:α} (h:(e i1,e i2,e i3,e i4,e i5,e i6,e i7,e i8,e i9,e i10,e i11,e i12,e i13,e i14)=(some x1,some x2,some x3,some x4,some x5,some x6,some x7,some x8,some x9,some x10,some x11,some x12,some x13,some x14)):keepE [i1,i2,i3,i4,i5,i6,i7,i8,i9,i10,i11,i12,i13,i14] e=upd (upd (upd (upd (upd (upd (upd (upd (upd (upd (upd (upd (upd (upd ((fun _=>none)) i14 (some x14)) i13 (some x13)) i12 (some x12)) i11 (some x11)) i10 (some x10)) i9 (some x9)) i8 (some x8)) i7 (some x7)) i6 (some x6)) i5 (some x5)) i4 (some x4)) i3 (some x3)) i2 (some x2)) i1 (some x1):=kc ((p2 h).1) (kc ((p2 (p2 h).2).1) (kc ((p2 (p2 (p2 h).2).2).1) (kc ((p2 (p2 (p2 (p2 h).2).2).2).1) (kc ((p2 (p2 (p2 (p2 (p2 h).2).2).2).2).1) (kc ((p2 (p2 (p2 (p2 (p2 (p2 h).2).2).2).2).2).1) (kc ((p2 (p2 (p2 (p2 (p2 (p2 (p2 h).2).2).2).2).2).2).1) (kc ((p2 (p2 (p2 (p2 (p2 (p2 (p2 (p2 h).2).2).2).2).2).2).2).1) (kc ((p2 (p2 (p2 (p2 (p2 (p2 (p2 (p2 (p2 h).2).2).2).2).2).2).2).2).1) (kc ((p2 (p2 (p2 (p2 (p2 (p2 (p2 (p2 (p2 (p2 h).2).2).2).2).2).2).2).2).2).1) (kc ((p2 (p2 (p2 (p2 (p2 (p2 (p2 (p2 (p2 (p2 (p2 h).2).2).2).2).2).2).2).2).2).2).1) (kc ((p2 (p2 (p2 (p2 (p2 (p2 (p2 (p2 (p2 (p2 (p2 (p2 h).2).2).2).2).2).2).2).2).2).2).2).1) (kc ((p2 (p2 (p2 (p2 (p2 (p2 (p2 (p2 (p2 (p2 (p2 (p2 (p2 h).2).2).2).2).2).2).2).2).2).2).2).2).1) (kc ((p2 (p2 (p2 (p2 (p2 (p2 (p2 (p2 (p2 (p2 (p2 (p2 (p2 h).2).2).2).2).2).2).2).2).2).2).2).2).2) kn)))))))))))))
theorem lq1 {m:List AV} {a1:AV} (h:m=[a1]):m=[a1]:=h
theorem lq2 {m:List AV} {a1 a2:AV} (h:m=[a1,a2]):m=[a1,a2]:=h
theorem lq3 {m:List AV} {a1 a2 a3:AV} (h:m=[a1,a2,a3]):m=[a1,a2,a3]:=h
theorem lq5 {m:List AV} {a1 a2 a3 a4 a5:AV} (h:m=[a1,a2,a3,a4,a5]):m=[a1,a2,a3,a4,a5]:=h
theorem lq7 {m:List AV} {a1 a2 a3 a4 a5 a6 a7:AV} (h:m=[a1,a2,a3,a4,a5,a6,a7]):m=[a1,a2,a3,a4,a5,a6,a7]:=h
theorem lq8 {m:List AV} {a1 a2 a3 a4 a5 a6 a7 a8:AV} (h:m=[a1,a2,a3,a4,a5,a6,a7,a8]):m=[a1,a2,a3,a4,a5,a6,a7,a8]:=h
theorem pq2 {d1 d2:Nat} {o1 o2:AOp} {t1 t2:TV} (h:(aop c (some d1) o1 ⟨E,L,n,v,D,S⟩,aop c (some d2) o2 ⟨upd (E) d1 (some t1),L,n,v,D,S⟩)=(some (some t1,⟨E,L,n,v,D,S⟩),some (some t2,⟨upd (E) d1 (some t1),L,n,v,D,S⟩))) (k:HL c l ⟨upd (upd (E) d1 (some t1)) d2 (some t2),L,n,v,D,S⟩ Q):HL c (⟨some d1,none,o1⟩ :: ⟨some d2,none,o2⟩ :: l) ⟨E,L,n,v,D,S⟩ Q:=qp ((p2 h).1) (qp ((p2 h).2) k)
theorem pq3 {d1 d2 d3:Nat} {o1 o2 o3:AOp} {t1 t2 t3:TV} (h:(aop c (some d1) o1 ⟨E,L,n,v,D,S⟩,aop c (some d2) o2 ⟨upd (E) d1 (some t1),L,n,v,D,S⟩,aop c (some d3) o3 ⟨upd (upd (E) d1 (some t1)) d2 (some t2),L,n,v,D,S⟩)=(some (some t1,⟨E,L,n,v,D,S⟩),some (some t2,⟨upd (E) d1 (some t1),L,n,v,D,S⟩),some (some t3,⟨upd (upd (E) d1 (some t1)) d2 (some t2),L,n,v,D,S⟩))) (k:HL c l ⟨upd (upd (upd (E) d1 (some t1)) d2 (some t2)) d3 (some t3),L,n,v,D,S⟩ Q):HL c (⟨some d1,none,o1⟩ :: ⟨some d2,none,o2⟩ :: ⟨some d3,none,o3⟩ :: l) ⟨E,L,n,v,D,S⟩ Q:=qp ((p2 h).1) (qp ((p2 (p2 h).2).1) (qp ((p2 (p2 h).2).2) k))
theorem pq4 {d1 d2 d3 d4:Nat} {o1 o2 o3 o4:AOp} {t1 t2 t3 t4:TV} (h:(aop c (some d1) o1 ⟨E,L,n,v,D,S⟩,aop c (some d2) o2 ⟨upd (E) d1 (some t1),L,n,v,D,S⟩,aop c (some d3) o3 ⟨upd (upd (E) d1 (some t1)) d2 (some t2),L,n,v,D,S⟩,aop c (some d4) o4 ⟨upd (upd (upd (E) d1 (some t1)) d2 (some t2)) d3 (some t3),L,n,v,D,S⟩)=(some (some t1,⟨E,L,n,v,D,S⟩),some (some t2,⟨upd (E) d1 (some t1),L,n,v,D,S⟩),some (some t3,⟨upd (upd (E) d1 (some t1)) d2 (some t2),L,n,v,D,S⟩),some (some t4,⟨upd (upd (upd (E) d1 (some t1)) d2 (some t2)) d3 (some t3),L,n,v,D,S⟩))) (k:HL c l ⟨upd (upd (upd (upd (E) d1 (some t1)) d2 (some t2)) d3 (some t3)) d4 (some t4),L,n,v,D,S⟩ Q):HL c (⟨some d1,none,o1⟩ :: ⟨some d2,none,o2⟩ :: ⟨some d3,none,o3⟩ :: ⟨some d4,none,o4⟩ :: l) ⟨E,L,n,v,D,S⟩ Q:=qp ((p2 h).1) (qp ((p2 (p2 h).2).1) (qp ((p2 (p2 (p2 h).2).2).1) (qp ((p2 (p2 (p2 h).2).2).2) k)))
theorem pq5 {d1 d2 d3 d4 d5:Nat} {o1 o2 o3 o4 o5:AOp} {t1 t2 t3 t4 t5:TV} (h:(aop c (some d1) o1 ⟨E,L,n,v,D,S⟩,aop c (some d2) o2 ⟨upd (E) d1 (some t1),L,n,v,D,S⟩,aop c (some d3) o3 ⟨upd (upd (E) d1 (some t1)) d2 (some t2),L,n,v,D,S⟩,aop c (some d4) o4 ⟨upd (upd (upd (E) d1 (some t1)) d2 (some t2)) d3 (some t3),L,n,v,D,S⟩,aop c (some d5) o5 ⟨upd (upd (upd (upd (E) d1 (some t1)) d2 (some t2)) d3 (some t3)) d4 (some t4),L,n,v,D,S⟩)=(some (some t1,⟨E,L,n,v,D,S⟩),some (some t2,⟨upd (E) d1 (some t1),L,n,v,D,S⟩),some (some t3,⟨upd (upd (E) d1 (some t1)) d2 (some t2),L,n,v,D,S⟩),some (some t4,⟨upd (upd (upd (E) d1 (some t1)) d2 (some t2)) d3 (some t3),L,n,v,D,S⟩),some (some t5,⟨upd (upd (upd (upd (E) d1 (some t1)) d2 (some t2)) d3 (some t3)) d4 (some t4),L,n,v,D,S⟩))) (k:HL c l ⟨upd (upd (upd (upd (upd (E) d1 (some t1)) d2 (some t2)) d3 (some t3)) d4 (some t4)) d5 (some t5),L,n,v,D,S⟩ Q):HL c (⟨some d1,none,o1⟩ :: ⟨some d2,none,o2⟩ :: ⟨some d3,none,o3⟩ :: ⟨some d4,none,o4⟩ :: ⟨some d5,none,o5⟩ :: l) ⟨E,L,n,v,D,S⟩ Q:=qp ((p2 h).1) (qp ((p2 (p2 h).2).1) (qp ((p2 (p2 (p2 h).2).2).1) (qp ((p2 (p2 (p2 (p2 h).2).2).2).1) (qp ((p2 (p2 (p2 (p2 h).2).2).2).2) k))))
theorem pq6 {d1 d2 d3 d4 d5 d6:Nat} {o1 o2 o3 o4 o5 o6:AOp} {t1 t2 t3 t4 t5 t6:TV} (h:(aop c (some d1) o1 ⟨E,L,n,v,D,S⟩,aop c (some d2) o2 ⟨upd (E) d1 (some t1),L,n,v,D,S⟩,aop c (some d3) o3 ⟨upd (upd (E) d1 (some t1)) d2 (some t2),L,n,v,D,S⟩,aop c (some d4) o4 ⟨upd (upd (upd (E) d1 (some t1)) d2 (some t2)) d3 (some t3),L,n,v,D,S⟩,aop c (some d5) o5 ⟨upd (upd (upd (upd (E) d1 (some t1)) d2 (some t2)) d3 (some t3)) d4 (some t4),L,n,v,D,S⟩,aop c (some d6) o6 ⟨upd (upd (upd (upd (upd (E) d1 (some t1)) d2 (some t2)) d3 (some t3)) d4 (some t4)) d5 (some t5),L,n,v,D,S⟩)=(some (some t1,⟨E,L,n,v,D,S⟩),some (some t2,⟨upd (E) d1 (some t1),L,n,v,D,S⟩),some (some t3,⟨upd (upd (E) d1 (some t1)) d2 (some t2),L,n,v,D,S⟩),some (some t4,⟨upd (upd (upd (E) d1 (some t1)) d2 (some t2)) d3 (some t3),L,n,v,D,S⟩),some (some t5,⟨upd (upd (upd (upd (E) d1 (some t1)) d2 (some t2)) d3 (some t3)) d4 (some t4),L,n,v,D,S⟩),some (some t6,⟨upd (upd (upd (upd (upd (E) d1 (some t1)) d2 (some t2)) d3 (some t3)) d4 (some t4)) d5 (some t5),L,n,v,D,S⟩))) (k:HL c l ⟨upd (upd (upd (upd (upd (upd (E) d1 (some t1)) d2 (some t2)) d3 (some t3)) d4 (some t4)) d5 (some t5)) d6 (some t6),L,n,v,D,S⟩ Q):HL c (⟨some d1,none,o1⟩ :: ⟨some d2,none,o2⟩ :: ⟨some d3,none,o3⟩ :: ⟨some d4,none,o4⟩ :: ⟨some d5,none,o5⟩ :: ⟨some d6,none,o6⟩ :: l) ⟨E,L,n,v,D,S⟩ Q:=qp ((p2 h).1) (qp ((p2 (p2 h).2).1) (qp ((p2 (p2 (p2 h).2).2).1) (qp ((p2 (p2 (p2 (p2 h).2).2).2).1) (qp ((p2 (p2 (p2 (p2 (p2 h).2).2).2).2).1) (qp ((p2 (p2 (p2 (p2 (p2 h).2).2).2).2).2) k)))))
theorem zq2 {d1 s1 d2 s2:Nat} {b1 b2:Bool} {o1 o2:AOp} (h:(gsk (E) s1 b1,gsk (upd (E) d1 (some .und)) s2 b2)=(true,true)) (k:HL c l ⟨upd (upd (E) d1 (some .und)) d2 (some .und),L,n,v,D,S⟩ Q):HL c (⟨some d1,some (s1,b1),o1⟩ :: ⟨some d2,some (s2,b2),o2⟩ :: l) ⟨E,L,n,v,D,S⟩ Q:=zq1 ((p2 h).1) (zq1 ((p2 h).2) k)
theorem zq3 {d1 s1 d2 s2 d3 s3:Nat} {b1 b2 b3:Bool} {o1 o2 o3:AOp} (h:(gsk (E) s1 b1,gsk (upd (E) d1 (some .und)) s2 b2,gsk (upd (upd (E) d1 (some .und)) d2 (some .und)) s3 b3)=(true,true,true)) (k:HL c l ⟨upd (upd (upd (E) d1 (some .und)) d2 (some .und)) d3 (some .und),L,n,v,D,S⟩ Q):HL c (⟨some d1,some (s1,b1),o1⟩ :: ⟨some d2,some (s2,b2),o2⟩ :: ⟨some d3,some (s3,b3),o3⟩ :: l) ⟨E,L,n,v,D,S⟩ Q:=zq1 ((p2 h).1) (zq1 ((p2 (p2 h).2).1) (zq1 ((p2 (p2 h).2).2) k))
theorem zq4 {d1 s1 d2 s2 d3 s3 d4 s4:Nat} {b1 b2 b3 b4:Bool} {o1 o2 o3 o4:AOp} (h:(gsk (E) s1 b1,gsk (upd (E) d1 (some .und)) s2 b2,gsk (upd (upd (E) d1 (some .und)) d2 (some .und)) s3 b3,gsk (upd (upd (upd (E) d1 (some .und)) d2 (some .und)) d3 (some .und)) s4 b4)=(true,true,true,true)) (k:HL c l ⟨upd (upd (upd (upd (E) d1 (some .und)) d2 (some .und)) d3 (some .und)) d4 (some .und),L,n,v,D,S⟩ Q):HL c (⟨some d1,some (s1,b1),o1⟩ :: ⟨some d2,some (s2,b2),o2⟩ :: ⟨some d3,some (s3,b3),o3⟩ :: ⟨some d4,some (s4,b4),o4⟩ :: l) ⟨E,L,n,v,D,S⟩ Q:=zq1 ((p2 h).1) (zq1 ((p2 (p2 h).2).1) (zq1 ((p2 (p2 (p2 h).2).2).1) (zq1 ((p2 (p2 (p2 h).2).2).2) k)))
theorem zq5 {d1 s1 d2 s2 d3 s3 d4 s4 d5 s5:Nat} {b1 b2 b3 b4 b5:Bool} {o1 o2 o3 o4 o5:AOp} (h:(gsk (E) s1 b1,gsk (upd (E) d1 (some .und)) s2 b2,gsk (upd (upd (E) d1 (some .und)) d2 (some .und)) s3 b3,gsk (upd (upd (upd (E) d1 (some .und)) d2 (some .und)) d3 (some .und)) s4 b4,gsk (upd (upd (upd (upd (E) d1 (some .und)) d2 (some .und)) d3 (some .und)) d4 (some .und)) s5 b5)=(true,true,true,true,true)) (k:HL c l ⟨upd (upd (upd (upd (upd (E) d1 (some .und)) d2 (some .und)) d3 (some .und)) d4 (some .und)) d5 (some .und),L,n,v,D,S⟩ Q):HL c (⟨some d1,some (s1,b1),o1⟩ :: ⟨some d2,some (s2,b2),o2⟩ :: ⟨some d3,some (s3,b3),o3⟩ :: ⟨some d4,some (s4,b4),o4⟩ :: ⟨some d5,some (s5,b5),o5⟩ :: l) ⟨E,L,n,v,D,S⟩ Q:=zq1 ((p2 h).1) (zq1 ((p2 (p2 h).2).1) (zq1 ((p2 (p2 (p2 h).2).2).1) (zq1 ((p2 (p2 (p2 (p2 h).2).2).2).1) (zq1 ((p2 (p2 (p2 (p2 h).2).2).2).2) k))))
theorem zq6 {d1 s1 d2 s2 d3 s3 d4 s4 d5 s5 d6 s6:Nat} {b1 b2 b3 b4 b5 b6:Bool} {o1 o2 o3 o4 o5 o6:AOp} (h:(gsk (E) s1 b1,gsk (upd (E) d1 (some .und)) s2 b2,gsk (upd (upd (E) d1 (some .und)) d2 (some .und)) s3 b3,gsk (upd (upd (upd (E) d1 (some .und)) d2 (some .und)) d3 (some .und)) s4 b4,gsk (upd (upd (upd (upd (E) d1 (some .und)) d2 (some .und)) d3 (some .und)) d4 (some .und)) s5 b5,gsk (upd (upd (upd (upd (upd (E) d1 (some .und)) d2 (some .und)) d3 (some .und)) d4 (some .und)) d5 (some .und)) s6 b6)=(true,true,true,true,true,true)) (k:HL c l ⟨upd (upd (upd (upd (upd (upd (E) d1 (some .und)) d2 (some .und)) d3 (some .und)) d4 (some .und)) d5 (some .und)) d6 (some .und),L,n,v,D,S⟩ Q):HL c (⟨some d1,some (s1,b1),o1⟩ :: ⟨some d2,some (s2,b2),o2⟩ :: ⟨some d3,some (s3,b3),o3⟩ :: ⟨some d4,some (s4,b4),o4⟩ :: ⟨some d5,some (s5,b5),o5⟩ :: ⟨some d6,some (s6,b6),o6⟩ :: l) ⟨E,L,n,v,D,S⟩ Q:=zq1 ((p2 h).1) (zq1 ((p2 (p2 h).2).1) (zq1 ((p2 (p2 (p2 h).2).2).1) (zq1 ((p2 (p2 (p2 (p2 h).2).2).2).1) (zq1 ((p2 (p2 (p2 (p2 (p2 h).2).2).2).2).1) (zq1 ((p2 (p2 (p2 (p2 (p2 h).2).2).2).2).2) k)))))
theorem zq7 {d1 s1 d2 s2 d3 s3 d4 s4 d5 s5 d6 s6 d7 s7:Nat} {b1 b2 b3 b4 b5 b6 b7:Bool} {o1 o2 o3 o4 o5 o6 o7:AOp} (h:(gsk (E) s1 b1,gsk (upd (E) d1 (some .und)) s2 b2,gsk (upd (upd (E) d1 (some .und)) d2 (some .und)) s3 b3,gsk (upd (upd (upd (E) d1 (some .und)) d2 (some .und)) d3 (some .und)) s4 b4,gsk (upd (upd (upd (upd (E) d1 (some .und)) d2 (some .und)) d3 (some .und)) d4 (some .und)) s5 b5,gsk (upd (upd (upd (upd (upd (E) d1 (some .und)) d2 (some .und)) d3 (some .und)) d4 (some .und)) d5 (some .und)) s6 b6,gsk (upd (upd (upd (upd (upd (upd (E) d1 (some .und)) d2 (some .und)) d3 (some .und)) d4 (some .und)) d5 (some .und)) d6 (some .und)) s7 b7)=(true,true,true,true,true,true,true)) (k:HL c l ⟨upd (upd (upd (upd (upd (upd (upd (E) d1 (some .und)) d2 (some .und)) d3 (some .und)) d4 (some .und)) d5 (some .und)) d6 (some .und)) d7 (some .und),L,n,v,D,S⟩ Q):HL c (⟨some d1,some (s1,b1),o1⟩ :: ⟨some d2,some (s2,b2),o2⟩ :: ⟨some d3,some (s3,b3),o3⟩ :: ⟨some d4,some (s4,b4),o4⟩ :: ⟨some d5,some (s5,b5),o5⟩ :: ⟨some d6,some (s6,b6),o6⟩ :: ⟨some d7,some (s7,b7),o7⟩ :: l) ⟨E,L,n,v,D,S⟩ Q:=zq1 ((p2 h).1) (zq1 ((p2 (p2 h).2).1) (zq1 ((p2 (p2 (p2 h).2).2).1) (zq1 ((p2 (p2 (p2 (p2 h).2).2).2).1) (zq1 ((p2 (p2 (p2 (p2 (p2 h).2).2).2).2).1) (zq1 ((p2 (p2 (p2 (p2 (p2 (p2 h).2).2).2).2).2).1) (zq1 ((p2 (p2 (p2 (p2 (p2 (p2 h).2).2).2).2).2).2) k))))))
theorem zq8 {d1 s1 d2 s2 d3 s3 d4 s4 d5 s5 d6 s6 d7 s7 d8 s8:Nat} {b1 b2 b3 b4 b5 b6 b7 b8:Bool} {o1 o2 o3 o4 o5 o6 o7 o8:AOp} (h:(gsk (E) s1 b1,gsk (upd (E) d1 (some .und)) s2 b2,gsk (upd (upd (E) d1 (some .und)) d2 (some .und)) s3 b3,gsk (upd (upd (upd (E) d1 (some .und)) d2 (some .und)) d3 (some .und)) s4 b4,gsk (upd (upd (upd (upd (E) d1 (some .und)) d2 (some .und)) d3 (some .und)) d4 (some .und)) s5 b5,gsk (upd (upd (upd (upd (upd (E) d1 (some .und)) d2 (some .und)) d3 (some .und)) d4 (some .und)) d5 (some .und)) s6 b6,gsk (upd (upd (upd (upd (upd (upd (E) d1 (some .und)) d2 (some .und)) d3 (some .und)) d4 (some .und)) d5 (some .und)) d6 (some .und)) s7 b7,gsk (upd (upd (upd (upd (upd (upd (upd (E) d1 (some .und)) d2 (some .und)) d3 (some .und)) d4 (some .und)) d5 (some .und)) d6 (some .und)) d7 (some .und)) s8 b8)=(true,true,true,true,true,true,true,true)) (k:HL c l ⟨upd (upd (upd (upd (upd (upd (upd (upd (E) d1 (some .und)) d2 (some .und)) d3 (some .und)) d4 (some .und)) d5 (some .und)) d6 (some .und)) d7 (some .und)) d8 (some .und),L,n,v,D,S⟩ Q):HL c (⟨some d1,some (s1,b1),o1⟩ :: ⟨some d2,some (s2,b2),o2⟩ :: ⟨some d3,some (s3,b3),o3⟩ :: ⟨some d4,some (s4,b4),o4⟩ :: ⟨some d5,some (s5,b5),o5⟩ :: ⟨some d6,some (s6,b6),o6⟩ :: ⟨some d7,some (s7,b7),o7⟩ :: ⟨some d8,some (s8,b8),o8⟩ :: l) ⟨E,L,n,v,D,S⟩ Q:=zq1 ((p2 h).1) (zq1 ((p2 (p2 h).2).1) (zq1 ((p2 (p2 (p2 h).2).2).1) (zq1 ((p2 (p2 (p2 (p2 h).2).2).2).1) (zq1 ((p2 (p2 (p2 (p2 (p2 h).2).2).2).2).1) (zq1 ((p2 (p2 (p2 (p2 (p2 (p2 h).2).2).2).2).2).1) (zq1 ((p2 (p2 (p2 (p2 (p2 (p2 (p2 h).2).2).2).2).2).2).1) (zq1 ((p2 (p2 (p2 (p2 (p2 (p2 (p2 h).2).2).2).2).2).2).2) k)))))))
theorem zq9 {d1 s1 d2 s2 d3 s3 d4 s4 d5 s5 d6 s6 d7 s7 d8 s8 d9 s9:Nat} {b1 b2 b3 b4 b5 b6 b7 b8 b9:Bool} {o1 o2 o3 o4 o5 o6 o7 o8 o9:AOp} (h:(gsk (E) s1 b1,gsk (upd (E) d1 (some .und)) s2 b2,gsk (upd (upd (E) d1 (some .und)) d2 (some .und)) s3 b3,gsk (upd (upd (upd (E) d1 (some .und)) d2 (some .und)) d3 (some .und)) s4 b4,gsk (upd (upd (upd (upd (E) d1 (some .und)) d2 (some .und)) d3 (some .und)) d4 (some .und)) s5 b5,gsk (upd (upd (upd (upd (upd (E) d1 (some .und)) d2 (some .und)) d3 (some .und)) d4 (some .und)) d5 (some .und)) s6 b6,gsk (upd (upd (upd (upd (upd (upd (E) d1 (some .und)) d2 (some .und)) d3 (some .und)) d4 (some .und)) d5 (some .und)) d6 (some .und)) s7 b7,gsk (upd (upd (upd (upd (upd (upd (upd (E) d1 (some .und)) d2 (some .und)) d3 (some .und)) d4 (some .und)) d5 (some .und)) d6 (some .und)) d7 (some .und)) s8 b8,gsk (upd (upd (upd (upd (upd (upd (upd (upd (E) d1 (some .und)) d2 (some .und)) d3 (some .und)) d4 (some .und)) d5 (some .und)) d6 (some .und)) d7 (some .und)) d8 (some .und)) s9 b9)=(true,true,true,true,true,true,true,true,true)) (k:HL c l ⟨upd (upd (upd (upd (upd (upd (upd (upd (upd (E) d1 (some .und)) d2 (some .und)) d3 (some .und)) d4 (some .und)) d5 (some .und)) d6 (some .und)) d7 (some .und)) d8 (some .und)) d9 (some .und),L,n,v,D,S⟩ Q):HL c (⟨some d1,some (s1,b1),o1⟩ :: ⟨some d2,some (s2,b2),o2⟩ :: ⟨some d3,some (s3,b3),o3⟩ :: ⟨some d4,some (s4,b4),o4⟩ :: ⟨some d5,some (s5,b5),o5⟩ :: ⟨some d6,some (s6,b6),o6⟩ :: ⟨some d7,some (s7,b7),o7⟩ :: ⟨some d8,some (s8,b8),o8⟩ :: ⟨some d9,some (s9,b9),o9⟩ :: l) ⟨E,L,n,v,D,S⟩ Q:=zq1 ((p2 h).1) (zq1 ((p2 (p2 h).2).1) (zq1 ((p2 (p2 (p2 h).2).2).1) (zq1 ((p2 (p2 (p2 (p2 h).2).2).2).1) (zq1 ((p2 (p2 (p2 (p2 (p2 h).2).2).2).2).1) (zq1 ((p2 (p2 (p2 (p2 (p2 (p2 h).2).2).2).2).2).1) (zq1 ((p2 (p2 (p2 (p2 (p2 (p2 (p2 h).2).2).2).2).2).2).1) (zq1 ((p2 (p2 (p2 (p2 (p2 (p2 (p2 (p2 h).2).2).2).2).2).2).2).1) (zq1 ((p2 (p2 (p2 (p2 (p2 (p2 (p2 (p2 h).2).2).2).2).2).2).2).2) k))))))))
theorem zq10 {d1 s1 d2 s2 d3 s3 d4 s4 d5 s5 d6 s6 d7 s7 d8 s8 d9 s9 d10 s10:Nat} {b1 b2 b3 b4 b5 b6 b7 b8 b9 b10:Bool} {o1 o2 o3 o4 o5 o6 o7 o8 o9 o10:AOp} (h:(gsk (E) s1 b1,gsk (upd (E) d1 (some .und)) s2 b2,gsk (upd (upd (E) d1 (some .und)) d2 (some .und)) s3 b3,gsk (upd (upd (upd (E) d1 (some .und)) d2 (some .und)) d3 (some .und)) s4 b4,gsk (upd (upd (upd (upd (E) d1 (some .und)) d2 (some .und)) d3 (some .und)) d4 (some .und)) s5 b5,gsk (upd (upd (upd (upd (upd (E) d1 (some .und)) d2 (some .und)) d3 (some .und)) d4 (some .und)) d5 (some .und)) s6 b6,gsk (upd (upd (upd (upd (upd (upd (E) d1 (some .und)) d2 (some .und)) d3 (some .und)) d4 (some .und)) d5 (some .und)) d6 (some .und)) s7 b7,gsk (upd (upd (upd (upd (upd (upd (upd (E) d1 (some .und)) d2 (some .und)) d3 (some .und)) d4 (some .und)) d5 (some .und)) d6 (some .und)) d7 (some .und)) s8 b8,gsk (upd (upd (upd (upd (upd (upd (upd (upd (E) d1 (some .und)) d2 (some .und)) d3 (some .und)) d4 (some .und)) d5 (some .und)) d6 (some .und)) d7 (some .und)) d8 (some .und)) s9 b9,gsk (upd (upd (upd (upd (upd (upd (upd (upd (upd (E) d1 (some .und)) d2 (some .und)) d3 (some .und)) d4 (some .und)) d5 (some .und)) d6 (some .und)) d7 (some .und)) d8 (some .und)) d9 (some .und)) s10 b10)=(true,true,true,true,true,true,true,true,true,true)) (k:HL c l ⟨upd (upd (upd (upd (upd (upd (upd (upd (upd (upd (E) d1 (some .und)) d2 (some .und)) d3 (some .und)) d4 (some .und)) d5 (some .und)) d6 (some .und)) d7 (some .und)) d8 (some .und)) d9 (some .und)) d10 (some .und),L,n,v,D,S⟩ Q):HL c (⟨some d1,some (s1,b1),o1⟩ :: ⟨some d2,some (s2,b2),o2⟩ :: ⟨some d3,some (s3,b3),o3⟩ :: ⟨some d4,some (s4,b4),o4⟩ :: ⟨some d5,some (s5,b5),o5⟩ :: ⟨some d6,some (s6,b6),o6⟩ :: ⟨some d7,some (s7,b7),o7⟩ :: ⟨some d8,some (s8,b8),o8⟩ :: ⟨some d9,some (s9,b9),o9⟩ :: ⟨some d10,some (s10,b10),o10⟩ :: l) ⟨E,L,n,v,D,S⟩ Q:=zq1 ((p2 h).1) (zq1 ((p2 (p2 h).2).1) (zq1 ((p2 (p2 (p2 h).2).2).1) (zq1 ((p2 (p2 (p2 (p2 h).2).2).2).1) (zq1 ((p2 (p2 (p2 (p2 (p2 h).2).2).2).2).1) (zq1 ((p2 (p2 (p2 (p2 (p2 (p2 h).2).2).2).2).2).1) (zq1 ((p2 (p2 (p2 (p2 (p2 (p2 (p2 h).2).2).2).2).2).2).1) (zq1 ((p2 (p2 (p2 (p2 (p2 (p2 (p2 (p2 h).2).2).2).2).2).2).2).1) (zq1 ((p2 (p2 (p2 (p2 (p2 (p2 (p2 (p2 (p2 h).2).2).2).2).2).2).2).2).1) (zq1 ((p2 (p2 (p2 (p2 (p2 (p2 (p2 (p2 (p2 h).2).2).2).2).2).2).2).2).2) k)))))))))
theorem er {l:List AIns} {k kl:List Nat} {b:AC} {fr:Fr} {Q:Ex → Fr → Prop} (h:HL c l fr (KQ k kl (SQ c b Q))):EX c (.seq (.reg l [] k kl) b) fr Q:=eseq (ereg h)
theorem qn {E':Nat → Option TV} {L':Nat → Option (List AV)} {k kl:List Nat} {b:AC} {Q:Ex → Fr → Prop} (h1:keepE k E=E') (h2:keepE kl L=L') (h:EX c b ⟨E',L',n,v,D,S⟩ Q):HL c [] ⟨E,L,n,v,D,S⟩ (KQ k kl (SQ c b Q)):=qk h1 h2 (sqn h)
end
end Go.Sim
namespace Go.Sim
open Go
theorem i64w {n:Int} (h:-9223372036854775808 ≤ n ∧ n ≤ 9223372036854775807):IntKind.i64.wrap n=n:=by rw [IntKind.wrap_i64];omega
section
variable {c:Caller} {E:Nat → Option TV} {L:Nat → Option (List AV)} {n:Nat} {v:Nat → Bool} {D:List (Nat × List AV)} {S:Sg} {l:List AIns} {Q:Fr → Prop}
theorem hadd {d:Nat} {x y:AO} {k:IntKind} {a b r:Int} (h1:evV E x=some (.lit (.int k a))) (h2:evV E y=some (.lit (.int k b))) (h3:k.wrap (a + b)=r) (q:HL c l ⟨upd E d (some (.val (.lit (.int k r)))),L,n,v,D,S⟩ Q) :
 HL c (⟨some d,none,.bin .add x y⟩ :: l) ⟨E,L,n,v,D,S⟩ Q:=by
 subst h3
 exact hop (by simp only [ins,run1,aop,h1,h2,Obs,abin,if_true,intOp];rfl) q
theorem hsub {d:Nat} {x y:AO} {k:IntKind} {a b r:Int} (h1:evV E x=some (.lit (.int k a))) (h2:evV E y=some (.lit (.int k b))) (h3:k.wrap (a - b)=r) (q:HL c l ⟨upd E d (some (.val (.lit (.int k r)))),L,n,v,D,S⟩ Q) :
 HL c (⟨some d,none,.bin .sub x y⟩ :: l) ⟨E,L,n,v,D,S⟩ Q:=by
 subst h3
 exact hop (by simp only [ins,run1,aop,h1,h2,Obs,abin,if_true,intOp];rfl) q
theorem ecS {o:AO} {X:Bool} {a b:AC} {fr:Fr} {Q:Ex → Fr → Prop} (hc:evV fr.env o=some (.lit (.bool X))) (h1:X=true → EX c a fr Q) (h2:X=false → EX c b fr Q):EX c (.cond o a b) fr Q:=by
 cases X with
 | true=>exact ecT hc (h1 rfl)
 | false=>exact ecF hc (h2 rfl)
theorem ejoin (s:Nat) (X:Bool) {code:AC} {Q:Ex → Fr → Prop} {k kl:List Nat} {E':Nat → Option TV} {L':Nat → Option (List AV)} (hk:keepE k (upd E s (some (.val (.lit (.bool X)))))=E') (hl:keepE kl L=L')
 (h1:EX c code ⟨E,L,n,v,D,S⟩ (fun e fr'=>e=.norm ∧ fr'=⟨E',L',n,v,D,S⟩)) (h2:Q .norm ⟨E',L',n,v,D,S⟩):EX c code ⟨E,L,n,v,D,S⟩ Q:=by
 obtain ⟨e,fr',h3,rfl,rfl⟩:=h1
 exact ⟨_,_,h3,h2⟩
def Can (o:Own) (v:Nat → Bool):Prop :=
 match o with
 | .full=>True
 | .tip t=>v t=true
 | _=>False
theorem hapC {d sz by_:Nat} {s x:AO} {o o':Own} {xs ys r:List AV} (h1:evV E s=some (.slice o sz xs)) (h2:evV E x=some (.slice o' sz ys)) (hc:Can o v) (hne:ys ≠ []) (hlen:(xs.length + ys.length) * by_ ≤ 2 ^ 47) (hr:xs ++ ys=r)
 (k:∀ v',Can (.tip n) v' → (∀ t,t ≠ n → o ≠ .tip t → v' t=v t) → HL c l ⟨upd E d (some (.val (.slice (.tip n) sz r))),L,n + 1,v',D,S⟩ Q):HL c (⟨some d,none,.app sz by_ s x⟩ :: l) ⟨E,L,n,v,D,S⟩ Q:=by
 subst hr
 cases o with
 | none=>exact hc.elim
 | full=>exact hapF h1 h2 hne hlen fun v' a b=>k v' a fun t ht _=>b t ht
 | tip t=>exact hapT h1 h2 hc hne hlen fun v' a b=>k v' a fun t' ht ht'=>b t' ht fun e=>ht' (by rw [e])
 | gt g=>exact hc.elim
theorem hstT {id off t sz:Nat} {a x:AO} {xs cs cs':List AV} (h1:evV E x=some (.slice (.tip t) sz xs)) (h2:ev E a=some (.val (.ptr id off))) (h3:S.ob id=some (.row cs)) (h4:off + 1 ≤ cs.length) (ht:v t=true) (h6:wr cs off [.slice (.gt S.gn) sz xs]=cs')
 (k:∀ v' S',S'.ob=upd S.ob id (some (.row cs')) → S'.nx=S.nx → S'.gn=S.gn + 1 → S'.gl S.gn=true → (∀ g,g ≠ S.gn → S'.gl g=S.gl g) → S'.Q=S.Q → (∀ j,j ≠ t → v' j=v j) → HL c l ⟨E,L,n,v',D,S'⟩ Q):HL c (⟨none,none,.st true 1 a x⟩ :: l) ⟨E,L,n,v,D,S⟩ Q:=by
 subst h6
 refine hop (fr':=⟨E,L,n,fun j=>if j=t then false else v j,D,{ S with gl:=fun j=>if j=S.gn then true else S.gl j,gn:=S.gn + 1,ob:=upd S.ob id (some (.row (wr cs off [.slice (.gt S.gn) sz xs]))) }⟩) ?_ (k _ _ rfl rfl rfl (by simp) (fun g hg=>by simp [hg]) rfl (fun j hj=>by simp [hj]))
 simp only [ins,run1,aop,h1,h2,Obs,stAt,if_true,h3,stv,ht,AV.cells,List.length_cons,List.length_nil,Nat.zero_add,if_pos h4]
 rfl
theorem hapG {d sz by_ g:Nat} {s x:AO} {o':Own} {xs ys r:List AV} (h1:evV E s=some (.slice (.gt g) sz xs)) (h2:evV E x=some (.slice o' sz ys)) (hg:S.gl g=true) (hne:ys ≠ []) (hlen:(xs.length + ys.length) * by_ ≤ 2 ^ 47) (hr:xs ++ ys=r)
 (k:∀ v' S',v' n=true → (∀ j,j ≠ n → v' j=v j) → S'.ob=S.ob → S'.nx=S.nx → S'.gn=S.gn → (∀ j,j ≠ g → S'.gl j=S.gl j) → S'.Q=S.Q → HL c l ⟨upd E d (some (.val (.slice (.tip n) sz r))),L,n + 1,v',D,S'⟩ Q):HL c (⟨some d,none,.app sz by_ s x⟩ :: l) ⟨E,L,n,v,D,S⟩ Q:=by
 subst hr
 cases ys with
 | nil=>exact absurd rfl hne
 | cons y ys =>
   refine hop ?_ (k (fun j=>if j=n then true else v j) { S with gl:=fun j=>if j=g then false else S.gl j } (by simp) (fun j hj=>by simp [hj]) rfl rfl rfl (fun j hj=>by simp [hj]) rfl)
   simp only [ins,run1,aop,h1,h2,Obs,sliceOf,if_true,appOf,if_pos hlen,mayApp,hg]
   rfl
theorem hcat {d:Nat} {x y:AO} {a b:ByteArray} (h1:evV E x=some (.lit (.string a))) (h2:evV E y=some (.lit (.string b))) (h3:a.size + b.size ≤ 2 ^ 62) (q:HL c l ⟨upd E d (some (.val (.lit (.string (a ++ b))))),L,n,v,D,S⟩ Q) :
 HL c (⟨some d,none,.bin .add x y⟩ :: l) ⟨E,L,n,v,D,S⟩ Q :=
 hop (by simp only [ins,run1,aop,h1,h2,Obs,abin,strOp,if_pos h3];rfl) q
theorem hsls {d a b:Nat} {x:AO} {lo hi:Option AO} {s:ByteArray} (h1:evV E x=some (.lit (.string s))) (h2:boundOf E lo 0=some a) (h3:boundOf E hi s.size=some b) (h4:a ≤ b ∧ b ≤ s.size) (q:HL c l ⟨upd E d (some (.val (.lit (.string (s.extract a b))))),L,n,v,D,S⟩ Q) :
 HL c (⟨some d,none,.sls x lo hi⟩ :: l) ⟨E,L,n,v,D,S⟩ Q :=
 hop (by simp only [ins,run1,aop,h1,Obs,slsOf,h2,h3,if_pos h4];rfl) q
end
abbrev I (x:Int):AV:=.lit (.int .i64 x)
abbrev B (b:Bool):AV:=.lit (.bool b)
abbrev Str (s:ByteArray):AV:=.lit (.string s)
structure Chg (X:Nat → Prop) (s s':Sg):Prop where
 nx:s.nx ≤ s'.nx
 ob:∀ i,i < s.nx → ¬ X i → s'.ob i=s.ob i
 gn:s.gn ≤ s'.gn
 gl:∀ g,g < s.gn → s'.gl g=s.gl g
 Q:s'.Q=s.Q
theorem Chg.refl {X:Nat → Prop} (s:Sg):Chg X s s:=⟨Nat.le_refl _,fun _ _ _=>rfl,Nat.le_refl _,fun _ _=>rfl,rfl⟩
theorem Chg.trans {X:Nat → Prop} {a b c:Sg} (h:Chg X a b) (k:Chg X b c):Chg X a c :=
 ⟨Nat.le_trans h.nx k.nx,fun i hi hx=>(k.ob i (Nat.lt_of_lt_of_le hi h.nx) hx).trans (h.ob i hi hx),Nat.le_trans h.gn k.gn,fun g hg=>(k.gl g (Nat.lt_of_lt_of_le hg h.gn)).trans (h.gl g hg),k.Q.trans h.Q⟩
theorem Chg.mono {X Y:Nat → Prop} {s s':Sg} (h:Chg X s s') (hXY:∀ i,i < s.nx → X i → Y i):Chg Y s s':=⟨h.nx,fun i hi hy=>h.ob i hi fun hx=>hy (hXY i hi hx),h.gn,h.gl,h.Q⟩
theorem Chg.set {X:Nat → Prop} {s s':Sg} {i:Nat} {o:AObj} (h:Chg X s s') (hi:i < s.nx → X i):Chg X s (s'.set i o) :=
 ⟨h.nx,fun j hj hx=>by
  have hne:j ≠ i:=fun e=>hx (e ▸ hi (e ▸ hj))
  simp only [Sg.set];rw [upd_ne _ _ hne];exact h.ob j hj hx,h.gn,h.gl,h.Q⟩
theorem Chg.new {X:Nat → Prop} {s s':Sg} {o:AObj} (h:Chg X s s'):Chg X s (s'.new o) :=
 ⟨Nat.le_succ_of_le h.nx,fun j hj hx=>by
  have hne:j ≠ s'.nx:=by have:=h.nx;omega
  simp only [Sg.new];rw [upd_ne _ _ hne];exact h.ob j hj hx,h.gn,h.gl,h.Q⟩
theorem Chg.ext {X:Nat → Prop} {s s':Sg} (h:Chg X s s') (hX:∀ i,X i → s.nx ≤ i):Ext s s':=⟨h.nx,fun i hi=>h.ob i hi fun hx=>by have:=hX i hx;omega,h.gn,h.gl,h.Q⟩
theorem Ext.chg {X:Nat → Prop} {s s':Sg} (h:Ext s s'):Chg X s s':=⟨h.nx,fun i hi _=>h.ob i hi,h.gn,h.gl,h.Q⟩
theorem set_ob {s:Sg} {i:Nat} {o:AObj}:(s.set i o).ob i=some o:=by simp [Sg.set,upd]
theorem set_ne {s:Sg} {i j:Nat} {o:AObj} (h:j ≠ i):(s.set i o).ob j=s.ob j:=by simp [Sg.set,upd,h]
theorem new_ob {s:Sg} {o:AObj}:(s.new o).ob s.nx=some o:=by simp [Sg.new,upd]
theorem new_lt {s:Sg} {j:Nat} {o:AObj} (h:j < s.nx):(s.new o).ob j=s.ob j:=by simp [Sg.new,upd,Nat.ne_of_lt h]
def setS (l:List ByteArray):Value → Option AV
 | .string s=>if (l.any fun y=>decide (y=s))=true then some (B true) else none
 | _=>none
theorem setS_nil:setS []=fun _=>none:=by funext k;cases k <;> simp [setS]
theorem setS_add (l:List ByteArray) (x:ByteArray):mset (setS l) (.string x) (some (B true))=setS (l ++ [x]):=by
 funext k
 unfold mset
 by_cases h:k=.string x
 ·subst h;simp [setS]
 rw [if_neg h]
 cases k <;> try rfl
 rename_i s
 have hne:x ≠ s:=fun e=>h (by rw [e])
 simp only [setS,List.any_append,List.any_cons,List.any_nil,Bool.or_false,decide_eq_false hne]
theorem setS_get (l:List ByteArray) (x:ByteArray):(setS l (.string x)).getD (B false)=B (l.any fun y=>decide (y=x)):=by
 simp only [setS]
 cases h:l.any fun y=>decide (y=x) <;> simp
def pairV (q:Int × Int):Value:=.agg #[.int .i64 q.1,.int .i64 q.2]
open Classical in
noncomputable def setP (l:List (Int × Int)):Value → Option AV:=fun k=>if ∃ q ∈ l,k=pairV q then some (B true) else none
theorem pairV_inj {a b:Int × Int} (h:pairV a=pairV b):a=b:=by
 simp only [pairV,Value.agg.injEq,Array.mk.injEq,List.cons.injEq,Value.int.injEq,true_and,and_true] at h
 exact Prod.ext h.1 h.2
theorem setP_nil:setP []=fun _=>none:=by funext k;simp [setP]
theorem setP_add (l:List (Int × Int)) (x:Int × Int):mset (setP l) (pairV x) (some (B true))=setP (l ++ [x]):=by
 funext k
 unfold mset
 by_cases h:k=pairV x
 ·rw [if_pos h]
  simp only [setP]
  rw [if_pos ⟨x,by simp,h⟩]
 rw [if_neg h]
 simp only [setP]
 by_cases hq:∃ q ∈ l,k=pairV q
 ·obtain ⟨q,h1,h2⟩:=hq
  rw [if_pos ⟨q,h1,h2⟩,if_pos ⟨q,by simp [h1],h2⟩]
 rw [if_neg hq,if_neg]
 rintro ⟨q,h1,h2⟩
 simp only [List.mem_append,List.mem_singleton] at h1
 rcases h1 with h1 | h1
 ·exact hq ⟨q,h1,h2⟩
 exact h (by rw [h2,h1])
theorem setP_get (l:List (Int × Int)) (x:Int × Int):(setP l (pairV x)).getD (B false)=B (l.any fun y=>decide (y=x)):=by
 simp only [setP]
 by_cases h:∃ q ∈ l,pairV x=pairV q
 ·obtain ⟨q,h1,h2⟩:=h
  rw [if_pos ⟨q,h1,h2⟩]
  have e:=pairV_inj h2
  subst e
  rw [show (l.any fun y=>decide (y=x))=true from List.any_eq_true.2 ⟨x,h1,by simp⟩]
  rfl
 rw [if_neg h]
 rw [show (l.any fun y=>decide (y=x))=false from by
  rw [List.any_eq_false]
  intro y hy
  simp only [Dte]
  intro e
  exact h ⟨y,hy,by rw [e]⟩]
 rfl
theorem drop_cons {α:Type} {l:List α} {i:Nat} {x:α} (h:l[i]?=some x):l.drop i=x :: l.drop (i + 1):=by
 have hi:i < l.length:=by
  rcases Nat.lt_or_ge i l.length with h' | h'
  ·exact h'
  rw [List.getElem?_eq_none h'] at h;cases h
 rw [List.getElem?_eq_getElem hi] at h
 cases h
 exact List.drop_eq_getElem_cons hi
theorem get_of_lt {α:Type} {l:List α} {i:Nat} (h:i < l.length):∃ x,l[i]?=some x:=⟨_,List.getElem?_eq_getElem h⟩
end Go.Sim
namespace Go.Sim
open Go
end Go.Sim
namespace Go.Sim
open Go
section
variable {c:Caller} {l:List AIns} {E:Nat → Option TV} {L:Nat → Option (List AV)} {n:Nat} {v:Nat → Bool} {D:List (Nat × List AV)} {S:Sg} {Q:Fr → Prop}
theorem hwop {d:Nat} {k:WOp} {xs:List AO} {q:List AV} {r:AV} {s':Sg} (h1:evVs E xs=some q) (h2:wopOf k S q=some (r,s'))
 (kk:HL c l ⟨upd E d (some (.val r)),L,n,v,D,s'⟩ Q):HL c (⟨some d,none,.wop k xs⟩ :: l) ⟨E,L,n,v,D,S⟩ Q :=
 hop (by simp only [ins,run1,aop,h1,h2,Obs];rfl) kk
theorem hiam {d sz g off len:Nat} {x i:AO} {j:Int} {kk:IntKind} (h1:evV E x=some (.ms g off len sz)) (h2:evV E i=some (.lit (.int kk j))) (h3:0 ≤ j) (h4:j.toNat < len)
 (k:HL c l ⟨upd E d (some (.val (.mp g (off + j.toNat * sz)))),L,n,v,D,S⟩ Q):HL c (⟨some d,none,.ia sz x i⟩ :: l) ⟨E,L,n,v,D,S⟩ Q :=
 hop (by simp only [ins,run1,aop,h1,h2,Obs,asN,iaOf,true_and,if_pos (show 0 ≤ j ∧ j.toNat < len from ⟨h3,h4⟩)];rfl) k
theorem hldm {d g off:Nat} {m:Option Nat} {a:AO} {cs:List AV} {y:AV} (h1:ev E a=some (.val (.mp g off))) (h2:S.mu g=some cs) (h3:rd m cs off=some y)
 (k:HL c l ⟨upd E d (some (.val y)),L,n,v,D,S⟩ Q):HL c (⟨some d,none,.ld true m a⟩ :: l) ⟨E,L,n,v,D,S⟩ Q :=
 hop (by simp only [ins,run1,aop,h1,Obs,ldAt,if_true,h2,h3];rfl) k
theorem hstm {g off m:Nat} {a x:AO} {y:AV} {cs cs':List AV} (h1:ev E a=some (.val (.mp g off))) (h2:evV E x=some y) (h3:S.mu g=some cs) (h4:y.cells.length=m) (h5:off + y.cells.length ≤ cs.length)
 (hn:∀ t sz xs,y ≠ .slice (.tip t) sz xs) (h6:wr cs off y.erT.cells=cs')
 (k:HL c l ⟨E,L,n,v,D,{ S with mu:=upd S.mu g (some cs') }⟩ Q):HL c (⟨none,none,.st true m a x⟩ :: l) ⟨E,L,n,v,D,S⟩ Q:=by
 subst h6
 have e:∀ fr:Fr,stv y fr=(y.erT,fr):=by
  intro fr
  unfold stv
  split
  ·rename_i t sz xs
   exact absurd rfl (hn t sz xs)
  rfl
 refine hop ?_ k
 simp only [ins,run1,aop,h1,h2,Obs,if_pos h4,stAt,if_true,h3,if_pos h5,e]
 rfl
end
end Go.Sim
namespace Go.Sim
open Go
def cloneF (sz by_:Nat) (m:Bool):AFun:=⟨1,
 .seq (.reg [⟨some 2,none,.mv (.c (.slice .full sz []))⟩] [] [0] [])
  (.seq (.seq (.reg [⟨some 3,none,.mv (.t 0)⟩,⟨some 4,none,.wop (.snl false) [.t 3]⟩] [] [0,4] [])
    (.cond (.t 4) (.seq (.reg [⟨some 2,none,.mv (.c (.slice .full sz []))⟩] [] [2] []) .ret) .skip))
    (.seq (.reg [⟨some 5,none,.bsl sz []⟩,⟨some 6,none,.mv (.t 0)⟩,⟨some 7,none,if m then .wop (.appm sz by_) [.t 5,.t 6] else .app sz by_ (.t 5) (.t 6)⟩,⟨some 2,none,.mv (.t 7)⟩] [] [2] []) .ret)),[.t 2]⟩
def cloneOv (sz by_:Nat) (args:List AV) (s:Sg):Option (List AV × Sg) :=
 match args with
 | [.slice o sz' []]=>if sz'=sz then some ([.slice .full sz []],s) else none
 | [.slice o sz' (x :: xs)]=>if sz'=sz ∧ (xs.length + 1) * by_ ≤ 2 ^ 47 then some ([.slice .none sz (x :: xs)],s) else none
 | [.ms g off len sz']=>if sz'=sz then (if len=0 then some ([.slice .full sz []],s) else (s.mu g).bind fun cs=>if off + len * sz ≤ cs.length ∧ len * by_ ≤ 2 ^ 47 then
    some ([.ms s.mn 0 len sz],{ s with mu:=upd s.mu s.mn (some ((cs.drop off).take (len * sz))),mn:=s.mn + 1 }) else none) else none
 | _=>none
theorem cloneF_s {c d:Caller} {lp sz by_:Nat} {o:Own} {x:AV} {xs:List AV} {s:Sg} (h:(xs.length + 1) * by_ ≤ 2 ^ 47) :
 runFn c d lp (cloneF sz by_ false) [.slice o sz (x :: xs)] s=some ([.slice .none sz (x :: xs)],s):=by
 have h':(xs.length + 1) * by_ ≤ 140737488355328:=h
 simp [runFn,cloneF,aexec,exL,ins,run1,aop,ev,evV,evVs,Fr.start,Fr.fresh,Fr.keep,keepE,upd,putD,TV.v,wopOf,snlOf,asB,sliceOf,appOf,mayApp,runD,evRs,evR,AV.ers,AV.er,h']
theorem cloneF_m {c d:Caller} {lp sz by_:Nat} {g off len:Nat} {cs:List AV} {s:Sg} (h0:len ≠ 0) (hg:s.mu g=some cs) (h1:off + len * sz ≤ cs.length) (h:len * by_ ≤ 2 ^ 47) :
 runFn c d lp (cloneF sz by_ true) [.ms g off len sz] s=some ([.ms s.mn 0 len sz],{ s with mu:=upd s.mu s.mn (some ((cs.drop off).take (len * sz))),mn:=s.mn + 1 }):=by
 have h':len * by_ ≤ 140737488355328:=h
 simp [runFn,cloneF,aexec,exL,ins,run1,aop,ev,evV,evVs,Fr.start,Fr.fresh,Fr.keep,keepE,upd,putD,TV.v,wopOf,snlOf,asB,nilS,appmOf,srcOf,runD,evRs,evR,AV.ers,AV.er,h',h0,hg,h1]
theorem clone_ok {P:Program} {f sz by_:Nat} (hmix:P.follows .mixedOrders=true) (hi:mF P f (cloneF sz by_ false)=true) (hm:mF P f (cloneF sz by_ true)=true)
 (hnil:∀ w,Calls P f #[.slice none 0 0] w fun e w'=>e=.returned (.slice none 0 0) ∧ w'=w)
 (hemp:∀ w a c,Calls P f #[.slice (some a) 0 c] w fun e w'=>e=.returned (.slice (some ⟨w.heap.size,0,none⟩) 0 0) ∧ Grew w w'):OvOK P f (cloneOv sz by_):=by
 have hno:CallOK P fun _ _ _=>none:=fun f args s res s' he=>by cases he
 have hnoD:CallDOK P fun _ _ _=>none:=fun f args s res s' he=>by cases he
 have hE:Enters P f:=by
  obtain ⟨g,c,h1,h2,h3,h4,h5,h6⟩:=mF_inv hi
  exact ⟨g,h1,by rw [h2];rfl,h5⟩
 have some0:∀ (G:Gh) (s:Sg) (w:World),WI G s w → Base G → ∀ a c,Calls P f #[.slice (some a) 0 c] w (Post G w s [.slice .full sz []]):=by
  intro G s w hw hB a c
  refine (hemp w a c).mono ?_
  rintro e w' ⟨rfl,hg⟩
  have hR:=(RR.start (n:=0) (args:=[]) (vs:=[]) hw hB rfl (Nat.le_refl 0)).1.grow hg
  refine ⟨[_],G,J,hR.wi,hB,?_,J,hR.pres⟩
  simp only [VRs]
  refine ⟨_,[],J,?_,J⟩
  simp only [VR]
  exact ⟨some ⟨w.heap.size,0,none⟩,0,rfl,Nat.le_refl _,by simp,⟨.inl rfl,fun j c hj=>by simp [flat] at hj⟩,rfl⟩
 intro args s res s' he G w vs hw hB hv hn
 unfold cloneOv at he
 split at he
 ·rename_i o sz'
  split at he
  ·rename_i hz
   subst hz
   cases he
   refine ⟨hE,?_⟩
   simp only [VRs] at hv
   obtain ⟨v,r,rfl,hv,rfl⟩:=hv
   simp only [VR] at hv
   obtain ⟨ad,cap,rfl,h1,h2,h3,h4⟩:=hv
   cases ad with
   | none =>
     simp only [lies] at h3
     subst h3
     refine (hnil w).mono ?_
     rintro e w' ⟨rfl,rfl⟩
     refine ⟨[_],G,J,hw,hB,?_,J,Pres.refl _ _⟩
     simp only [VRs]
     refine ⟨_,[],J,?_,J⟩
     simp only [VR]
     exact ⟨none,0,rfl,Nat.le_refl _,by simp,rfl,rfl⟩
   | some ad=>exact some0 G s w hw hB ad cap
  cases he
 ·rename_i o sz' x xs
  split at he
  ·rename_i hz
   obtain ⟨hz,hl⟩:=hz
   subst hz
   cases he
   exact fn_ok hmix hno hnoD (lp:=0) hi (cloneF_s hl) hw hB hv
  cases he
 ·rename_i g off len sz'
  split at he
  ·rename_i hz
   subst hz
   split at he
   ·rename_i h0
    subst h0
    cases he
    refine ⟨hE,?_⟩
    simp only [VRs] at hv
    obtain ⟨v,r,rfl,hv,rfl⟩:=hv
    simp only [VR] at hv
    obtain ⟨b,room,cap,rfl,h1,h2⟩:=hv
    exact some0 G s w hw hB _ cap
   rename_i h0
   obtain ⟨cs,hcs,he⟩:=Obe.1 he
   split at he
   ·rename_i hb
    cases he
    exact fn_ok hmix hno hnoD (lp:=0) hm (cloneF_m h0 hcs hb.1 hb.2) hw hB hv
   cases he
  cases he
 cases he
end Go.Sim
namespace Go.Sim
open Go
def cloneTOv (sz by_:Nat) (args:List AV) (s:Sg):Option (List AV × Sg) :=
 match args with
 | [.slice o sz' []]=>if sz'=sz then some ([.slice .none sz []],s) else none
 | [.slice o sz' (x :: xs)]=>if sz'=sz ∧ (xs.length + 1) * by_ ≤ 2 ^ 47 then some ([.ms s.mn 0 (xs.length + 1) sz],{ s with mu:=upd s.mu s.mn (some (flat (x :: xs))),mn:=s.mn + 1 }) else none
 | _=>none
theorem cloneF_t {c d:Caller} {lp sz by_:Nat} {o:Own} {x:AV} {xs:List AV} {s:Sg} (h:(xs.length + 1) * by_ ≤ 2 ^ 47) :
 runFn c d lp (cloneF sz by_ true) [.slice o sz (x :: xs)] s=some ([.ms s.mn 0 (xs.length + 1) sz],{ s with mu:=upd s.mu s.mn (some (flat (x :: xs))),mn:=s.mn + 1 }):=by
 have h':(xs.length + 1) * by_ ≤ 140737488355328:=h
 simp [runFn,cloneF,aexec,exL,ins,run1,aop,ev,evV,evVs,Fr.start,Fr.fresh,Fr.keep,keepE,upd,putD,TV.v,wopOf,snlOf,asB,nilS,appmOf,srcOf,runD,evRs,evR,AV.ers,AV.er,h']
theorem cloneT_ok {P:Program} {f sz by_:Nat} (hmix:P.follows .mixedOrders=true) (h:OvOK P f (cloneOv sz by_)) (hm:mF P f (cloneF sz by_ true)=true):OvOK P f (cloneTOv sz by_):=by
 intro args s res s' he G w vs hw hB hv hn
 unfold cloneTOv at he
 split at he
 ·rename_i o sz'
  split at he
  ·rename_i hz
   subst hz
   cases he
   have h1:=h [.slice o sz' []] s [.slice .full sz' []] s (by simp only [cloneOv];exact if_pos trivial) G w vs hw hB hv hn
   refine ⟨h1.1,h1.2.mono ?_⟩
   rintro e w' ⟨l,G',q1,q2,q3,q4,q5,q6⟩
   exact ⟨l,G',q1,q2,q3,VRs_er _ _ q4,rfl,q6⟩
  cases he
 ·split at he
  ·rename_i hz
   obtain ⟨hz,hl⟩:=hz
   subst hz
   cases he
   exact fn_ok hmix (fun f args s res s' he=>by cases he) (fun f args s res s' he=>by cases he) (call:=fun _ _ _=>none) (callD:=fun _ _ _=>none) (lp:=0) hm (cloneF_t hl) hw hB hv
  cases he
 cases he
end Go.Sim
namespace Go.Sim
open Go
def mHandler (P:Program) (f:Nat):Bool :=
 match P.funcs[f]? with
 | some fn=>decide (fn.name ≠ "runtime.NumGoroutine") && fn.results.toList.isEmpty && (match fn.body with
   | some (.seq (.region _ ops0 false) (.seq (.region _ ops1 false) (.cond (.tmp z) _ .skip)))=>(match ops0.toList,ops1.toList with
     | [⟨some r,.call c,_,_,_,none⟩,⟨some x,.assign (.tmp r'),_,_,_,none⟩],[⟨some y,.move (.tmp x'),_,_,_,none⟩,⟨some q,.binOp .neq t (.tmp y') (.const .nilIface) _,_,_,_,none⟩] =>
       (match c.callee,c.args.toList with
       | .builtin .recover,[]=>true
       | _,_=>false) && (r' == r && x' == x && y' == y && q == z) && (decide (r < fn.ntmps) && decide (x < fn.ntmps) && decide (y < fn.ntmps) && decide (z < fn.ntmps)) &&
       (match P.underlying t with
       | some (.interface _)=>true
       | _=>false)
     | _,_=>false)
   | _=>false)
 | none=>false
theorem put_eval {a:Act} {d:Nat} {v:Value} (h:d < a.tmps.size):(a.put (some d) v).eval (.tmp d)=v:=by
 simp only [Act.put,Act.eval]
 rw [getD_eq (by simpa using h)]
 simp
theorem put_sz {a:Act} {d:Nat} {v:Value}:(a.put (some d) v).tmps.size=a.tmps.size:=by simp [Act.put]
theorem wanted_none {o:Oper} {y:Nat → Option Bool} (h:o.guard=none):Region.wanted o y=true:=by simp [Region.wanted,h]
theorem handler_ok {P:Program} {f np:Nat} (h:mHandler P f=true):DvOK P f np:=by
 unfold mHandler at h
 split at h
 ·rename_i fn hf
  simp only [Bool.and_eq_true,decide_eq_true_eq] at h
  obtain ⟨⟨hname,hres⟩,h⟩:=h
  split at h
  ·rename_i i0 ops0 i1 ops1 z X hb
   split at h
   ·rename_i r c ty0 p0 a0 x r' ty1 p1 a1 y x' ty2 p2 a2 q t y' ot ty3 p3 a3 e0 e1
    simp only [Bool.and_eq_true,beq_iff_eq,decide_eq_true_eq] at h
    obtain ⟨⟨⟨h1,⟨⟨⟨rfl,rfl⟩,rfl⟩,rfl⟩⟩,⟨⟨⟨s1,s2⟩,s3⟩,s4⟩⟩,h5⟩:=h
    split at h1
    ·rename_i hcal hargs
     split at h5
     ·rename_i ms hu
      have eo0:ops0=#[⟨some r',.call c,ty0,p0,a0,none⟩,⟨some x',.assign (.tmp r'),ty1,p1,a1,none⟩]:=Array.ext' (by simpa using e0)
      have eo1:ops1=#[⟨some y',.move (.tmp x'),ty2,p2,a2,none⟩,⟨some q,.binOp .neq t (.tmp y') (.const .nilIface) ot,ty3,p3,a3,none⟩]:=Array.ext' (by simpa using e1)
      intro args G s w vs hl hw hB hv hn
      refine ⟨⟨fn,hf,by rw [hb];rfl,hname⟩,callsD_of_wpS hf hb ?_⟩
      intro c0 cs hmode
      have hsz:(vs.toArray ++ Array.replicate (fn.ntmps - vs.toArray.size) undef).size ≥ fn.ntmps:=by simp;omega
      generalize hA:({ tmps:=vs.toArray ++ Array.replicate (fn.ntmps - vs.toArray.size) undef,defers:=[] }:Act)=A
      have hAs:fn.ntmps ≤ A.tmps.size:=by rw [← hA];exact hsz
      have hAd:A.defers=[]:=by rw [← hA]
      have hrec:recoverD (c0 :: cs)=none:=by simp [recoverD,hmode]
      have hop0:∀ (a:Act) (w:World),(execOp a.eval ⟨some r',.call c,ty0,p0,a0,none⟩).run P w=.ok .recover w:=by
       intro a w
       simp only [execOp,resolve,hcal,Sem.run_bind,Sem.run_pure,Result.andThen_ok,invoke,builtin]
      refine wpS_seq (wpS_region ?_)
      rw [eo0]
      have r0:List.range (#[⟨some r',.call c,ty0,p0,a0,none⟩,⟨some x',.assign (.tmp r'),ty1,p1,a1,none⟩]:Array Oper).size=[0,1]:=rfl
      rw [r0]
      simp only [wpOpsS,List.getElem?_toArray,List.getElem?_cons_zero,List.getElem?_cons_succ,wanted_none,if_true]
      rw [hop0]
      simp only [hrec,execOp,Sem.run_pure,Oper.upon,Exit.thenS]
      have k1:fn.ntmps ≤ (A.put (some r') .nilIface).tmps.size:=by rw [put_sz];exact hAs
      rw [put_eval (Nat.lt_of_lt_of_le s1 hAs)]
      generalize hB1:((A.put (some r') .nilIface).put (some x') .nilIface)=A1
      have k2:fn.ntmps ≤ A1.tmps.size:=by rw [← hB1,put_sz];exact k1
      have k3:A1.eval (.tmp x')=.nilIface:=by rw [← hB1];exact put_eval (Nat.lt_of_lt_of_le s2 k1)
      have k4:A1.defers=[]:=by rw [← hB1];exact hAd
      refine wpS_seq (wpS_region ?_)
      rw [eo1]
      have r1:List.range (#[⟨some y',.move (.tmp x'),ty2,p2,a2,none⟩,⟨some q,.binOp .neq t (.tmp y') (.const .nilIface) ot,ty3,p3,a3,none⟩]:Array Oper).size=[0,1]:=rfl
      rw [r1]
      have hop3:∀ (a:Act) (w:World),a.eval (.tmp y')=.nilIface → (execOp a.eval ⟨some q,.binOp .neq t (.tmp y') (.const .nilIface) ot,ty3,p3,a3,none⟩).run P w=.ok (.value (.bool false)) w:=by
       intro a w ha
       have hcn:a.eval (.const .nilIface)=.nilIface:=rfl
       have heq:∀ n,(Op.equalIn (n + 1) t .nilIface .nilIface).run P w=.ok true w:=fun n=>by simp [Op.equalIn,run_underlying hu]
       simp only [execOp,ha,hcn,Sem.run_bind]
       simp [eqGuard,binOp,Op.equal,Op.maxDepth,heq]
      simp only [wpOpsS,List.getElem?_toArray,List.getElem?_cons_zero,List.getElem?_cons_succ,wanted_none,if_true]
      have hop2:(execOp A1.eval ⟨some y',.move (.tmp x'),ty2,p2,a2,none⟩).run P w=.ok (.value .nilIface) w:=by simp only [execOp,k3,Sem.run_pure]
      rw [hop2]
      simp only [Oper.upon]
      have k5:(A1.put (some y') .nilIface).eval (.tmp y')=.nilIface:=put_eval (Nat.lt_of_lt_of_le s3 k2)
      rw [hop3 _ _ k5]
      simp only [Exit.thenS]
      have k6:((A1.put (some y') .nilIface).put (some q) (.bool false)).eval (.tmp q)=.bool false:=put_eval (by rw [put_sz];exact Nat.lt_of_lt_of_le s4 k2)
      refine wpS_cond k6 ?_
      simp only [Bool.false_eq_true,if_false]
      refine wpS_of_wp (wp_skip ?_)
      refine ⟨k4,.returning,by rw [← hmode],.tuple #[],?_,rfl,[],G,rfl,hw,hB,rfl,rfl,Pres.refl _ _⟩
      have hr0:fn.results=#[]:=Array.ext' (by simpa using hres)
      simp [results,hr0]
     cases h5
    cases h1
   cases h
  cases h
 cases h
end Go.Sim
