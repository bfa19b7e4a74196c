/-
  A part of a proof: see the last text of this claim.
-/
import Derived.Test.YtfejjomhjeioaaaGreatDoorPB
set_option linter.unusedVariables false
set_option linter.unusedSimpArgs false
namespace Go.Sim
open Go
section
variable {α β:Type}
def fN (n:Nat) (k:Nat → Option α):Option α:=match n with
 | 0=>k 0
 | .succ m=>k (.succ m)
def fI (n:Int) (k:Int → Option α):Option α:=match n with
 | .ofNat n=>fN n fun n=>k (.ofNat n)
 | .negSucc n=>fN n fun n=>k (.negSucc n)
def fB (b:Bool) (k:Bool → Option α):Option α:=match b with
 | true=>k true
 | false=>k false
def fLst (f:β → (β → Option α) → Option α):List β → (List β → Option α) → Option α
 | [],k=>k []
 | b :: l,k=>f b fun b=>fLst f l fun l=>k (b :: l)
def fSp:List β → (List β → Option α) → Option α
 | [],k=>k []
 | x :: l,k=>fSp l fun l=>k (x :: l)
def fS (s:ByteArray) (k:ByteArray → Option α):Option α:=match s with
 | ⟨⟨l⟩⟩=>fSp l fun l=>k ⟨⟨l⟩⟩
def fV (v:Value) (k:Value → Option α):Option α:=match v with
 | .int kd n=>fI n fun n=>k (.int kd n)
 | .bool b=>fB b fun b=>k (.bool b)
 | .string s=>fS s fun s=>k (.string s)
 | v=>k v
def fO (o:Own) (k:Own → Option α):Option α:=match o with
 | .tip t=>fN t fun t=>k (.tip t)
 | .gt t=>fN t fun t=>k (.gt t)
 | .full=>k .full
 | .none=>k .none
def fA:Nat → AV → (AV → Option α) → Option α
 | 0,v,k=>k v
 | .succ d,v,k=>match v with
   | .lit v=>fV v fun v=>k (.lit v)
   | .agg cs=>fLst (fA d) cs fun cs=>k (.agg cs)
   | .slice o sz xs=>fO o fun o=>fN sz fun sz=>fLst (fA d) xs fun xs=>k (.slice o sz xs)
   | .ptr i o=>fN i fun i=>fN o fun o=>k (.ptr i o)
   | .cptr cs o=>fLst (fA d) cs fun cs=>fN o fun o=>k (.cptr cs o)
   | .map i=>fN i fun i=>k (.map i)
   | .fn f a b=>fN f fun f=>fLst (fA d) a fun a=>fLst (fA d) b fun b=>k (.fn f a b)
   | .iface t v=>fA d v fun v=>k (.iface t v)
   | .ms g o l z=>fN g fun g=>fN o fun o=>fN l fun l=>fN z fun z=>k (.ms g o l z)
   | .mp g o=>fN g fun g=>fN o fun o=>k (.mp g o)
def dp:Nat:=60
def fAs (l:List AV) (k:List AV → Option α):Option α:=fLst (fA dp) l k
def fE:Nat → AV → (AV → Option α) → Option α
 | 0,v,k=>k v
 | .succ d,v,k=>match v with
   | .lit v=>k (.lit v)
   | .agg cs=>fLst (fE d) cs fun cs=>k (.agg cs)
   | .slice o sz xs=>fO o fun o=>fLst (fE d) xs fun xs=>k (.slice o sz xs)
   | .ptr i o=>k (.ptr i o)
   | .cptr cs o=>fLst (fE d) cs fun cs=>k (.cptr cs o)
   | .map i=>k (.map i)
   | .fn f a b=>fLst (fE d) a fun a=>fLst (fE d) b fun b=>k (.fn f a b)
   | .iface t v=>fE d v fun v=>k (.iface t v)
   | .ms g o l z=>k (.ms g o l z)
   | .mp g o=>k (.mp g o)
def fEs (l:List AV) (k:List AV → Option α):Option α:=fLst (fE dp) l k
def fTE (t:Option TV) (k:Option TV → Option α):Option α:=match t with
 | some (.loc i o)=>k (some (.loc i o))
 | some (.val v)=>fE dp v fun v=>k (some (.val v))
 | some (.tup vs)=>fEs vs fun vs=>k (some (.tup vs))
 | some .und=>k (some .und)
 | none=>k none
def fT (t:TV) (k:TV → Option α):Option α:=match t with
 | .loc i o=>fN i fun i=>fN o fun o=>k (.loc i o)
 | .val v=>fA dp v fun v=>k (.val v)
 | .tup vs=>fAs vs fun vs=>k (.tup vs)
 | .und=>k .und
def fTo (t:Option TV) (k:Option TV → Option α):Option α:=match t with
 | some t=>fT t fun t=>k (some t)
 | none=>k none
theorem fN_eq (n:Nat) (k:Nat → Option α):fN n k=k n:=by cases n <;> rfl
theorem fI_eq (n:Int) (k:Int → Option α):fI n k=k n:=by cases n <;> simp only [fI,fN_eq]
theorem fB_eq (n:Bool) (k:Bool → Option α):fB n k=k n:=by cases n <;> rfl
theorem fLst_eq {f:β → (β → Option α) → Option α} (hf:∀ b k,f b k=k b):∀ (l:List β) (k:List β → Option α),fLst f l k=k l
 | [],k=>rfl
 | b :: l,k=>by simp only [fLst,hf,fLst_eq hf l]
theorem fSp_eq:∀ (l:List β) (k:List β → Option α),fSp l k=k l
 | [],k=>rfl
 | b :: l,k=>by simp only [fSp,fSp_eq l]
theorem fS_eq (s:ByteArray) (k:ByteArray → Option α):fS s k=k s:=by obtain ⟨⟨l⟩⟩:=s;simp only [fS,fSp_eq]
theorem fV_eq (v:Value) (k:Value → Option α):fV v k=k v:=by cases v <;> simp only [fV,fI_eq,fB_eq,fS_eq]
theorem fO_eq (v:Own) (k:Own → Option α):fO v k=k v:=by cases v <;> simp only [fO,fN_eq]
theorem beq_ne {i j:Nat} (h:i ≠ j):Nat.beq i j=false:=by
 cases hb:Nat.beq i j with
 | false=>rfl
 | true=>exact absurd (Nat.eq_of_beq_eq_true hb) h
theorem beq_self (i:Nat):Nat.beq i i=true:=Nat.beq_refl i
theorem fA_eq:∀ (d:Nat) (v:AV) (k:AV → Option α),fA d v k=k v
 | 0,v,k=>rfl
 | d + 1,v,k=>by
   have h:=fLst_eq (fun b k=>fA_eq d b k)
   cases v <;> simp only [fA,fV_eq,fO_eq,fN_eq,h,fA_eq d]
theorem fE_eq:∀ (d:Nat) (v:AV) (k:AV → Option α),fE d v k=k v
 | 0,v,k=>rfl
 | d + 1,v,k=>by
   have h:=fLst_eq (fun b k=>fE_eq d b k)
   cases v <;> simp only [fE,fO_eq,h,fE_eq d]
theorem fEs_eq (l:List AV) (k:List AV → Option α):fEs l k=k l:=fLst_eq (fE_eq dp) l k
theorem fTE_eq (t:Option TV) (k:Option TV → Option α):fTE t k=k t:=by
 cases t with
 | none=>rfl
 | some t=>cases t <;> simp only [fTE,fE_eq,fEs_eq]
theorem fAs_eq (l:List AV) (k:List AV → Option α):fAs l k=k l:=fLst_eq (fA_eq dp) l k
theorem fT_eq (t:TV) (k:TV → Option α):fT t k=k t:=by cases t <;> simp only [fT,fN_eq,fA_eq,fAs_eq]
theorem fTo_eq (t:Option TV) (k:Option TV → Option α):fTo t k=k t:=by cases t <;> simp only [fTo,fT_eq]
end
section
variable {α β:Type}
def toE:List (Nat × Option β) → Nat → Option β
 | [],_=>none
 | (j,v) :: l,i=>match Nat.beq i j with
  | true=>v
  | false=>toE l i
theorem toE_cons {j:Nat} {v:Option β} {l:List (Nat × Option β)}:toE ((j,v) :: l)=upd (toE l) j v:=by
 funext i
 simp only [toE,upd]
 by_cases h:i=j
 ·subst h;simp
 rw [if_neg h]
 have:Nat.beq i j=false:=beq_ne h
 rw [this]
def toB:List (Nat × Bool) → Nat → Bool
 | [],_=>false
 | (j,v) :: l,i=>match Nat.beq i j with
  | true=>v
  | false=>toB l i
theorem toB_cons {j:Nat} {v:Bool} {l:List (Nat × Bool)}:toB ((j,v) :: l)=fun i=>if i=j then v else toB l i:=by
 funext i
 simp only [toB]
 by_cases h:i=j
 ·subst h;simp
 rw [if_neg h]
 have:Nat.beq i j=false:=beq_ne h
 rw [this]
def xset (i:Nat) (o:Option β):List (Nat × Option β) → List (Nat × Option β)
 | []=>[(i,o)]
 | (j,p) :: l=>match Nat.beq j i with
  | true=>(i,o) :: l
  | false=>(j,p) :: xset i o l
def xsetK (i:Nat) (o:Option β):List (Nat × Option β) → (List (Nat × Option β) → Option α) → Option α
 | [],k=>k [(i,o)]
 | (j,p) :: l,k=>match Nat.beq j i with
  | true=>k ((i,o) :: l)
  | false=>xsetK i o l fun l'=>k ((j,p) :: l')
theorem xsetK_eq (i:Nat) (o:Option β):∀ (l:List (Nat × Option β)) (k:List (Nat × Option β) → Option α),xsetK i o l k=k (xset i o l)
 | [],k=>rfl
 | (j,p) :: l,k=>by
  simp only [xsetK,xset]
  cases Nat.beq j i with
  | true=>rfl
  | false=>exact xsetK_eq i o l _
theorem toE_xset (i:Nat) (o:Option β):∀ l:List (Nat × Option β),toE (xset i o l)=upd (toE l) i o
 | []=>by simp only [xset,toE_cons]
 | (j,p) :: l=>by
  simp only [xset]
  by_cases h:j=i
  ·subst h
   rw [beq_self]
   simp only [toE_cons]
   funext x
   simp only [upd]
   split <;> rfl
  rw [show Nat.beq j i=false from beq_ne h]
  simp only [toE_cons,toE_xset i o l]
  funext x
  simp only [upd]
  by_cases hx:x=j
  ·subst hx;rw [if_pos rfl,if_neg h,if_pos rfl]
  rw [if_neg hx,if_neg hx]
def xsetB (i:Nat) (o:Bool):List (Nat × Bool) → List (Nat × Bool)
 | []=>[(i,o)]
 | (j,p) :: l=>match Nat.beq j i with
  | true=>(i,o) :: l
  | false=>(j,p) :: xsetB i o l
def xsetBK (i:Nat) (o:Bool):List (Nat × Bool) → (List (Nat × Bool) → Option α) → Option α
 | [],k=>k [(i,o)]
 | (j,p) :: l,k=>match Nat.beq j i with
  | true=>k ((i,o) :: l)
  | false=>xsetBK i o l fun l'=>k ((j,p) :: l')
theorem xsetBK_eq (i:Nat) (o:Bool):∀ (l:List (Nat × Bool)) (k:List (Nat × Bool) → Option α),xsetBK i o l k=k (xsetB i o l)
 | [],k=>rfl
 | (j,p) :: l,k=>by
  simp only [xsetBK,xsetB]
  cases Nat.beq j i with
  | true=>rfl
  | false=>exact xsetBK_eq i o l _
theorem toB_xset (i:Nat) (o:Bool):∀ l:List (Nat × Bool),toB (xsetB i o l)=fun j=>if j=i then o else toB l j
 | []=>by simp only [xsetB,toB_cons]
 | (j,p) :: l=>by
  simp only [xsetB]
  by_cases h:j=i
  ·subst h
   rw [beq_self]
   simp only [toB_cons]
   funext x
   split <;> rfl
  rw [show Nat.beq j i=false from beq_ne h]
  simp only [toB_cons,toB_xset i o l]
  funext x
  by_cases hx:x=j
  ·subst hx;rw [if_pos rfl,if_neg h,if_pos rfl]
  rw [if_neg hx,if_neg hx]
def xkeep:List Nat → List (Nat × Option β) → (List (Nat × Option β) → Option α) → Option α
 | [],_,k=>k []
 | i :: is,l,k=>match toE l i with
   | some v=>xkeep is l fun l'=>k ((i,some v) :: l')
   | none=>xkeep is l fun l'=>k ((i,none) :: l')
def xkp:List Nat → List (Nat × Option β) → List (Nat × Option β)
 | [],_=>[]
 | i :: is,l=>(i,toE l i) :: xkp is l
theorem xkeep_eq:∀ (is:List Nat) (l:List (Nat × Option β)) (k:List (Nat × Option β) → Option α),xkeep is l k=k (xkp is l)
 | [],l,k=>rfl
 | i :: is,l,k=>by
   simp only [xkeep,xkp]
   cases toE l i <;> exact xkeep_eq is l _
theorem toE_xkp:∀ (is:List Nat) (l:List (Nat × Option β)),toE (xkp is l)=keepE is (toE l)
 | [],l=>rfl
 | i :: is,l=>by simp only [xkp,toE_cons,toE_xkp is l,keepE]
end
def xdrop (d:Nat):List (Nat × Option TV) → List (Nat × Option TV)
 | []=>[]
 | (j,v) :: l=>(j,match v with
  | some (.loc i o)=>(match Nat.beq i d with
    | true=>none
    | false=>some (.loc i o))
  | v=>v) :: xdrop d l
def xdropK {α:Type} (d:Nat):List (Nat × Option TV) → (List (Nat × Option TV) → Option α) → Option α
 | [],k=>k []
 | (j,v) :: l,k=>match v with
  | some (.loc i o)=>(match Nat.beq i d with
    | true=>xdropK d l fun l'=>k ((j,none) :: l')
    | false=>xdropK d l fun l'=>k ((j,some (.loc i o)) :: l'))
  | v=>xdropK d l fun l'=>k ((j,v) :: l')
theorem xdropK_eq {α:Type} (d:Nat):∀ (l:List (Nat × Option TV)) (k:List (Nat × Option TV) → Option α),xdropK d l k=k (xdrop d l)
 | [],k=>rfl
 | (j,v) :: l,k=>by
  simp only [xdropK,xdrop]
  split
  ·rename_i i o
   cases Nat.beq i d <;> exact xdropK_eq d l _
  exact xdropK_eq d l _
theorem toE_xdrop (d:Nat):∀ l:List (Nat × Option TV),toE (xdrop d l)=dropL d (toE l)
 | []=>rfl
 | (j,v) :: l=>by
  simp only [xdrop,toE_cons,toE_xdrop d l]
  funext i
  simp only [upd,dropL]
  by_cases h:i=j
  ·rw [if_pos h,if_pos h]
   split
   ·rename_i a o
    simp only
    by_cases ha:a=d
    ·subst ha;simp [beq_self]
    rw [if_neg ha,beq_ne ha]
   rename_i x hx
   split
   ·rename_i a o;exact absurd rfl (hx a o)
   rfl
  rw [if_neg h,if_neg h]
inductive XObj
 | row (cs:List AV)
 | map (kk:KK) (m:List (Value × Option AV))
structure XS where
 ob:List (Nat × Option XObj)
 nx:Nat
 gl:List (Nat × Bool)
 gn:Nat
 mu:List (Nat × Option (List AV))
 mn:Nat
structure XFr where
 env:List (Nat × Option TV)
 loc:List (Nat × Option (List AV))
 nt:Nat
 lv:List (Nat × Bool)
 df:List (Nat × List AV)
 sg:XS
noncomputable def toM:List (Value × Option AV) → Value → Option AV
 | []=>fun _=>none
 | (k,v) :: l=>mset (toM l) k v
noncomputable def XObj.ab:XObj → AObj
 | .row cs=>.row cs
 | .map kk m=>.map kk (toM m)
noncomputable def toSg (q:Nat → Nat → Option AV) (x:XS):Sg:=⟨fun i=>(toE x.ob i).map XObj.ab,x.nx,toB x.gl,x.gn,q,toE x.mu,x.mn⟩
noncomputable def toFr (q:Nat → Nat → Option AV) (x:XFr):Fr:=⟨toE x.env,toE x.loc,x.nt,toB x.lv,x.df,toSg q x.sg⟩
theorem map_upd {β γ:Type} (f:β → γ) (e:Nat → Option β) (i:Nat) (o:Option β):(fun j=>(upd e i o j).map f)=upd (fun j=>(e j).map f) i (o.map f):=by
 funext j
 simp only [upd]
 split <;> rfl
def veqo:Value → Value → Option Bool
 | .int k a,.int k' b=>some (decide (k=k') && decide (a=b))
 | .string a,.string b=>some (decide (a.data.toList=b.data.toList))
 | .agg ⟨[.int k1 a1,.int k2 a2]⟩,.agg ⟨[.int j1 b1,.int j2 b2]⟩=>some (decide (k1=j1) && decide (a1=b1) && decide (k2=j2) && decide (a2=b2))
 | _,_=>none
theorem bytes_eq {a b:ByteArray}:a.data.toList=b.data.toList ↔ a=b:=by
 constructor
 ·intro h
  obtain ⟨⟨a⟩⟩:=a
  obtain ⟨⟨b⟩⟩:=b
  simp only at h
  rw [h]
 rintro rfl;rfl
theorem veqo_eq {a b:Value} {r:Bool} (h:veqo a b=some r):r=true ↔ a=b:=by
 unfold veqo at h
 split at h
 ·cases h;simp
 ·cases h;rw [decide_eq_true_iff,bytes_eq];simp
 ·cases h;simp [and_assoc]
 cases h
def xget (k:Value):List (Value × Option AV) → Option (Option AV)
 | []=>some none
 | (j,v) :: l=>match veqo k j with
  | some true=>some v
  | some false=>xget k l
  | none=>none
theorem xget_eq {k:Value}:∀ {l:List (Value × Option AV)} {r:Option AV},xget k l=some r → toM l k=r
 | [],r,h=>by cases h;rfl
 | (j,v) :: l,r,h=>by
  simp only [xget] at h
  simp only [toM,mset]
  split at h
  ·rename_i e
   rw [if_pos ((veqo_eq e).1 rfl)]
   cases h;rfl
  ·rename_i e
   rw [if_neg fun hh=>by have:=(veqo_eq e).2 hh;cases this]
   exact xget_eq h
  cases h
def beqV:Value → Value → Bool
 | .bool a,.bool b=>a == b
 | .int k a,.int j b=>decide (k=j) && decide (a=b)
 | .string a,.string b=>decide (a.data.toList=b.data.toList)
 | .pointer none,.pointer none=>true
 | .map none,.map none=>true
 | .nilFunc,.nilFunc=>true
 | .nilIface,.nilIface=>true
 | _,_=>false
theorem beqV_eq {a b:Value} (h:beqV a b=true):a=b:=by
 unfold beqV at h
 split at h
 ·rw [beq_iff_eq.1 h]
 ·simp only [Bae,Dte] at h;rw [h.1,h.2]
 ·rw [bytes_eq.1 (Odt h)]
 ·rfl
 ·rfl
 ·rfl
 ·rfl
 cases h
def beqO:Own → Own → Bool
 | .none,.none=>true
 | .full,.full=>true
 | .tip a,.tip b=>Nat.beq a b
 | .gt a,.gt b=>Nat.beq a b
 | _,_=>false
theorem beqO_eq {a b:Own} (h:beqO a b=true):a=b:=by
 unfold beqO at h
 split at h <;> first | rfl | (rw [Nat.eq_of_beq_eq_true h]) | cases h
def beqL {β:Type} (f:β → β → Bool):List β → List β → Bool
 | [],[]=>true
 | a :: as,b :: bs=>f a b && beqL f as bs
 | _,_=>false
theorem beqL_eq {β:Type} {f:β → β → Bool} (hf:∀ a b,f a b=true → a=b):∀ {l m:List β},beqL f l m=true → l=m
 | [],[],_=>rfl
 | a :: as,b :: bs,h=>by
   simp only [beqL,Bae] at h
   rw [hf a b h.1,beqL_eq hf h.2]
 | [],_ :: _,h=>by cases h
 | _ :: _,[],h=>by cases h
def beqA:Nat → AV → AV → Bool
 | 0,_,_=>false
 | .succ d,a,b=>match a,b with
   | .lit v,.lit u=>beqV v u
   | .agg cs,.agg ds=>beqL (beqA d) cs ds
   | .slice o sz xs,.slice o' sz' ys=>beqO o o' && Nat.beq sz sz' && beqL (beqA d) xs ys
   | .ptr i o,.ptr j q=>Nat.beq i j && Nat.beq o q
   | .cptr cs o,.cptr ds q=>beqL (beqA d) cs ds && Nat.beq o q
   | .map i,.map j=>Nat.beq i j
   | .fn f x y,.fn g u v=>Nat.beq f g && beqL (beqA d) x u && beqL (beqA d) y v
   | .ms g o l z,.ms g' o' l' z'=>Nat.beq g g' && Nat.beq o o' && Nat.beq l l' && Nat.beq z z'
   | .mp g o,.mp g' o'=>Nat.beq g g' && Nat.beq o o'
   | _,_=>false
theorem beqA_eq:∀ (d:Nat) (a b:AV),beqA d a b=true → a=b
 | 0,_,_,h=>by cases h
 | d + 1,a,b,h=>by
   have ih:=fun {l m}=>beqL_eq (l:=l) (m:=m) (beqA_eq d)
   unfold beqA at h
   split at h
   ·rw [beqV_eq h]
   ·rw [ih h]
   ·simp only [Bae] at h;rw [beqO_eq h.1.1,Nat.eq_of_beq_eq_true h.1.2,ih h.2]
   ·simp only [Bae] at h;rw [Nat.eq_of_beq_eq_true h.1,Nat.eq_of_beq_eq_true h.2]
   ·simp only [Bae] at h;rw [ih h.1,Nat.eq_of_beq_eq_true h.2]
   ·rw [Nat.eq_of_beq_eq_true h]
   ·simp only [Bae] at h;rw [Nat.eq_of_beq_eq_true h.1.1,ih h.1.2,ih h.2]
   ·simp only [Bae] at h;rw [Nat.eq_of_beq_eq_true h.1.1.1,Nat.eq_of_beq_eq_true h.1.1.2,Nat.eq_of_beq_eq_true h.1.2,Nat.eq_of_beq_eq_true h.2]
   ·simp only [Bae] at h;rw [Nat.eq_of_beq_eq_true h.1,Nat.eq_of_beq_eq_true h.2]
   cases h
def beqX:Option XObj → Option XObj → Bool
 | some (.row cs),some (.row ds)=>beqL (beqA dp) cs ds
 | _,_=>false
theorem beqX_eq {a b:Option XObj} (h:beqX a b=true):a=b ∧ ∃ cs,b=some (.row cs):=by
 unfold beqX at h
 split at h
 ·rw [beqL_eq (beqA_eq dp) h];exact ⟨rfl,_,rfl⟩
 cases h
def xkeeps (e:List (Nat × Option TV)) (s s':XS):List Nat → Bool
 | []=>true
 | k :: ks=>(match toE e k with
   | some (.val (.ptr id off))=>beqX (toE s'.ob id) (toE s.ob id)
   | _=>false) && xkeeps e s s' ks
theorem xkeeps_ok {q:Nat → Nat → Option AV} {e:List (Nat × Option TV)} {s s':XS}:∀ {ks:List Nat},xkeeps e s s' ks=true → keeps (toE e) (toSg q s) (toSg q s') ks
 | [],_=>rfl
 | k :: ks,h=>by
   simp only [xkeeps,Bae] at h
   refine ⟨?_,xkeeps_ok h.2⟩
   have h1:=h.1
   split at h1
   ·rename_i id off he
    obtain ⟨e1,cs,e2⟩:=beqX_eq h1
    refine .inl ⟨id,off,.row cs,he,?_,?_⟩
    ·simp only [toSg,e2];rfl
    simp only [toSg,e1,e2];rfl
   cases h1
end Go.Sim
namespace Go.Sim
open Go
abbrev XCaller:=Nat → List AV → XS → Option (List AV × XS)
section
variable {α:Type}
def xput (id:Nat) (o:XObj) (s:XS) (k:XS → Option α):Option α:=match s with
 | ⟨ob,nx,gl,gn,mu,mn⟩=>xsetK id (some o) ob fun ob=>k ⟨ob,nx,gl,gn,mu,mn⟩
def xnew (o:XObj) (s:XS) (k:XS → Option α):Option α:=match s with
 | ⟨ob,nx,gl,gn,mu,mn⟩=>fN (Nat.succ nx) fun m=>k ⟨(nx,some o) :: ob,m,gl,gn,mu,mn⟩
def xmu (g:Nat) (o:Option (List AV)) (s:XS) (k:XS → Option α):Option α:=match s with
 | ⟨ob,nx,gl,gn,mu,mn⟩=>xsetK g o mu fun mu=>k ⟨ob,nx,gl,gn,mu,mn⟩
def xmnew (o:Option (List AV)) (s:XS) (k:XS → Option α):Option α:=match s with
 | ⟨ob,nx,gl,gn,mu,mn⟩=>fN (Nat.succ mn) fun m=>k ⟨ob,nx,gl,gn,(mn,o) :: mu,m⟩
theorem xput_eq {q:Nat → Nat → Option AV} {id:Nat} {o:XObj} {s:XS} {k:XS → Option α} {r:α} (h:xput id o s k=some r):∃ s',k s'=some r ∧ toSg q s'=(toSg q s).set id o.ab:=by
 obtain ⟨ob,nx,gl,gn,mu,mn⟩:=s
 simp only [xput,xsetK_eq] at h
 refine ⟨_,h,?_⟩
 simp only [toSg,Sg.set,toE_xset,map_upd]
 rfl
theorem xnew_eq {q:Nat → Nat → Option AV} {o:XObj} {s:XS} {k:XS → Option α} {r:α} (h:xnew o s k=some r):∃ s',k s'=some r ∧ toSg q s'=(toSg q s).new o.ab:=by
 obtain ⟨ob,nx,gl,gn,mu,mn⟩:=s
 simp only [xnew,fN_eq] at h
 refine ⟨_,h,?_⟩
 simp only [toSg,Sg.new,toE_cons,map_upd]
 rfl
theorem xmu_eq {q:Nat → Nat → Option AV} {g:Nat} {o:Option (List AV)} {s:XS} {k:XS → Option α} {r:α} (h:xmu g o s k=some r):∃ s',k s'=some r ∧ toSg q s'={ toSg q s with mu:=upd (toSg q s).mu g o }:=by
 obtain ⟨ob,nx,gl,gn,mu,mn⟩:=s
 simp only [xmu,xsetK_eq] at h
 refine ⟨_,h,?_⟩
 simp only [toSg,toE_xset]
theorem xmnew_eq {q:Nat → Nat → Option AV} {o:Option (List AV)} {s:XS} {k:XS → Option α} {r:α} (h:xmnew o s k=some r):∃ s',k s'=some r ∧ toSg q s'={ toSg q s with mu:=upd (toSg q s).mu (toSg q s).mn o,mn:=(toSg q s).mn + 1 }:=by
 obtain ⟨ob,nx,gl,gn,mu,mn⟩:=s
 simp only [xmnew,fN_eq] at h
 refine ⟨_,h,?_⟩
 simp only [toSg,toE_cons]
end
def xstv {α:Type} (v:AV) (x:XFr) (k:AV → XFr → Option α):Option α:=match v with
 | .slice (.tip t) sz xs=>match x with
   | ⟨env,loc,nt,lv,df,⟨ob,nx,gl,gn,mu,mn⟩⟩=>match toB lv t with
     | true=>xsetBK t false lv fun lv=>fN (Nat.succ gn) fun gm=>k (.slice (.gt gn) sz xs) ⟨env,loc,nt,lv,df,⟨ob,nx,(gn,true) :: gl,gm,mu,mn⟩⟩
     | false=>k (.slice .none sz xs) x
 | v=>fE dp v.erT fun w=>k w x
theorem xstv_eq {α:Type} {q:Nat → Nat → Option AV} {v:AV} {x:XFr} {k:AV → XFr → Option α} {r:α} (h:xstv v x k=some r):∃ w x',k w x'=some r ∧ stv v (toFr q x)=(w,toFr q x'):=by
 unfold xstv at h
 unfold stv
 split at h
 ·rename_i t sz xs
  obtain ⟨env,loc,nt,lv,df,⟨ob,nx,gl,gn,mu,mn⟩⟩:=x
  simp only at h
  cases hb:toB lv t with
  | true =>
    rw [hb] at h
    simp only [xsetBK_eq,fN_eq] at h
    refine ⟨_,_,h,?_⟩
    simp only [toFr,hb,if_true,toB_xset,toSg,toB_cons]
    rfl
  | false =>
    rw [hb] at h
    refine ⟨_,_,h,?_⟩
    simp only [toFr,hb]
    simp
 rename_i hv
 simp only [fA_eq,fE_eq] at h
 refine ⟨_,_,h,?_⟩
 split
 ·rename_i t sz xs;exact absurd rfl (hv t sz xs)
 rfl
def xst (x:XFr) (h:Bool) (v:AV):TV → Option XFr
 | .loc i off=>match x with
   | ⟨env,loc,nt,lv,df,sg⟩=>match toE loc i with
     | some cs=>if off + v.cells.length ≤ cs.length then fSp (wr cs off v.cells) fun cs=>xsetK i (some cs) loc fun loc=>some ⟨env,loc,nt,lv,df,sg⟩ else none
     | none=>none
 | .val (.ptr id off)=>match h with
   | true=>match toE x.sg.ob id with
     | some (.row cs)=>if off + v.cells.length ≤ cs.length then xstv v x fun w x'=>fSp (wr cs off w.cells) fun cs=>match x' with
        | ⟨env,loc,nt,lv,df,sg⟩=>xput id (.row cs) sg fun sg=>some ⟨env,loc,nt,lv,df,sg⟩
       else none
     | _=>none
   | false=>none
 | .val (.mp g off)=>match h with
   | true=>match toE x.sg.mu g with
     | some cs=>if off + v.cells.length ≤ cs.length then xstv v x fun w x'=>fSp (wr cs off w.cells) fun cs=>match x' with
        | ⟨env,loc,nt,lv,df,sg⟩=>xmu g (some cs) sg fun sg=>some ⟨env,loc,nt,lv,df,sg⟩
       else none
     | none=>none
   | false=>none
 | _=>none
theorem xst_ok {q:Nat → Nat → Option AV} {x x':XFr} {h:Bool} {v:AV} {t:TV} (e:xst x h v t=some x'):stAt (toFr q x) h v t=some (toFr q x'):=by
 unfold xst at e
 split at e
 ·rename_i i off
  obtain ⟨env,loc,nt,lv,df,sg⟩:=x
  simp only at e
  split at e
  ·rename_i cs hc
   split at e
   ·rename_i hl
    simp only [fAs_eq,fSp_eq,fEs_eq,xsetK_eq,Oie] at e
    subst e
    simp only [stAt,toFr,hc,Obs,if_pos hl,toE_xset]
   cases e
  cases e
 ·rename_i id off
  split at e
  ·split at e
   ·rename_i cs hc
    split at e
    ·rename_i hl
     obtain ⟨w,y,e,h1⟩:=xstv_eq (q:=q) e
     simp only [fAs_eq,fSp_eq,fEs_eq] at e
     obtain ⟨env,loc,nt,lv,df,sg⟩:=y
     obtain ⟨s',e,h2⟩:=xput_eq (q:=q) e
     cases e
     simp only [stAt,if_true]
     rw [show (toFr q x).sg.ob id=some (.row cs) from by simp only [toFr,toSg,hc];rfl]
     simp only [if_pos hl,h1]
     simp only [toFr,h2,XObj.ab]
    cases e
   cases e
  cases e
 ·rename_i g off
  split at e
  ·split at e
   ·rename_i cs hc
    split at e
    ·rename_i hl
     obtain ⟨w,y,e,h1⟩:=xstv_eq (q:=q) e
     simp only [fAs_eq,fSp_eq,fEs_eq] at e
     obtain ⟨env,loc,nt,lv,df,sg⟩:=y
     obtain ⟨s',e,h2⟩:=xmu_eq (q:=q) e
     cases e
     simp only [stAt,if_true]
     rw [show (toFr q x).sg.mu g=some cs from by simp only [toFr,toSg,hc]]
     simp only [Obs,if_pos hl,h1]
     simp only [toFr,h2]
    cases e
   cases e
  cases e
 cases e
def xmay {α:Type} (o:Own) (x:XFr) (k:XFr → Option α):Option α:=match o with
 | .none=>none
 | .full=>k x
 | .tip t=>match x with
   | ⟨env,loc,nt,lv,df,sg⟩=>match toB lv t with
     | true=>xsetBK t false lv fun lv=>k ⟨env,loc,nt,lv,df,sg⟩
     | false=>none
 | .gt g=>match x with
   | ⟨env,loc,nt,lv,df,⟨ob,nx,gl,gn,mu,mn⟩⟩=>match toB gl g with
     | true=>xsetBK g false gl fun gl=>k ⟨env,loc,nt,lv,df,⟨ob,nx,gl,gn,mu,mn⟩⟩
     | false=>none
theorem xmay_eq {α:Type} {q:Nat → Nat → Option AV} {o:Own} {x:XFr} {k:XFr → Option α} {r:α} (h:xmay o x k=some r):∃ x',k x'=some r ∧ mayApp o (toFr q x)=some (toFr q x'):=by
 unfold xmay at h
 unfold mayApp
 split at h
 ·cases h
 ·exact ⟨_,h,rfl⟩
 ·obtain ⟨env,loc,nt,lv,df,sg⟩:=x
  simp only at h
  split at h
  ·rename_i hb
   simp only [xsetBK_eq] at h
   refine ⟨_,h,?_⟩
   simp only [toFr,hb,if_true,toB_xset]
  cases h
 obtain ⟨env,loc,nt,lv,df,⟨ob,nx,gl,gn,mu,mn⟩⟩:=x
 simp only at h
 split at h
 ·rename_i hb
  simp only [xsetBK_eq] at h
  refine ⟨_,h,?_⟩
  simp only [toFr,toSg,hb,if_true,toB_xset]
 cases h
def xapp (sz by_:Nat) (x:XFr) (o:Own) (xs:List AV):List AV → Option (Option TV × XFr)
 | []=>some (some (.val (.slice o sz xs)),x)
 | y :: ys=>if (xs.length + (y :: ys).length) * by_ ≤ 2 ^ 47 then xmay o x fun x'=>match x' with
    | ⟨env,loc,nt,lv,df,sg⟩=>fN (Nat.succ nt) fun nm=>some (some (.val (.slice (.tip nt) sz (xs ++ y :: ys))),⟨env,loc,nm,(nt,true) :: lv,df,sg⟩) else none
theorem xapp_ok {q:Nat → Nat → Option AV} {sz by_:Nat} {x:XFr} {o:Own} {xs ys:List AV} {r:Option TV × XFr} (h:xapp sz by_ x o xs ys=some r):appOf sz by_ (toFr q x) o xs ys=some (r.1,toFr q r.2):=by
 cases ys with
 | nil=>cases h;rfl
 | cons y ys =>
   simp only [xapp] at h
   simp only [appOf]
   split at h
   ·rename_i hl
    rw [if_pos hl]
    obtain ⟨x',h,h1⟩:=xmay_eq (q:=q) h
    rw [h1]
    obtain ⟨env,loc,nt,lv,df,sg⟩:=x'
    simp only [fN_eq,Oie] at h
    subst h
    simp only [Obs,toFr,toB_cons]
   cases h
def xsrc (sz:Nat) (s:XS):AV → Option (Nat × List AV)
 | .slice _ sz' xs=>if sz=sz' then some (xs.length,flat xs) else none
 | .ms g off len sz'=>if sz=sz' then (toE s.mu g).bind fun cs=>if off + len * sz ≤ cs.length then some (len,(cs.drop off).take (len * sz)) else none else none
 | _=>none
theorem xsrc_eq {q:Nat → Nat → Option AV} {sz:Nat} {s:XS} {a:AV}:xsrc sz s a=srcOf sz (toSg q s) a:=by cases a <;> rfl
def xmks (sz by_:Nat) (z:List AV) (s:XS) (n m:Int):Option (AV × XS) :=
 if 0 ≤ n ∧ n ≤ m ∧ m.toNat * by_ ≤ 2 ^ 47 then fAs (zeros z n.toNat) fun cs=>xmnew (some cs) s fun s'=>some (.ms s.mn 0 n.toNat sz,s') else none
def xcpy (sz:Nat) (s:XS) (src:AV):AV → Option (AV × XS)
 | .ms g off len sz'=>if sz=sz' then (xsrc sz s src).bind fun r=>(toE s.mu g).bind fun cs=>if off + min r.1 len * sz ≤ cs.length then
    fSp (wr cs off (r.2.take (min r.1 len * sz))) fun cs=>xmu g (some cs) s fun s'=>some (.lit (.int .i64 (min r.1 len:Nat)),s') else none else none
 | .slice _ sz' []=>if sz=sz' then (xsrc sz s src).bind fun _=>some (.lit (.int .i64 0),s) else none
 | _=>none
def xfrz (sz:Nat) (s:XS):AV → Option (AV × XS)
 | .ms g off len sz'=>if sz=sz' ∧ 0 < sz then (toE s.mu g).bind fun cs=>if off + len * sz ≤ cs.length then
    xmu g none s fun s'=>some (.slice .none sz (unfl sz len ((cs.drop off).take (len * sz))),s') else none else none
 | .slice _ sz' xs=>if sz=sz' then some (.slice .none sz xs,s) else none
 | _=>none
def xappm (sz by_:Nat) (s:XS) (src:AV):AV → Option (AV × XS)
 | .ms g off len sz'=>if sz=sz' ∧ off=0 then (xsrc sz s src).bind fun r=>(toE s.mu g).bind fun cs=>if cs.length=len * sz ∧ (len + r.1) * by_ ≤ 2 ^ 47 then
    (if r.1=0 then some (.ms g 0 len sz,s) else fSp (cs ++ r.2) fun cs=>xmu g none s fun s'=>xmnew (some cs) s' fun s''=>some (.ms s'.mn 0 (len + r.1) sz,s'')) else none else none
 | .slice .full sz' []=>if sz=sz' then (xsrc sz s src).bind fun r=>if r.1 * by_ ≤ 2 ^ 47 then
    (if r.1=0 then some (.slice .full sz [],s) else fSp r.2 fun cs=>xmnew (some cs) s fun s'=>some (.ms s.mn 0 r.1 sz,s')) else none else none
 | _=>none
def xfrzC (s:XS):AV → Option (AV × XS)
 | .ms g off len sz=>xfrz sz s (.ms g off len sz)
 | v=>some (v,s)
def xfrzL:XS → List AV → Option (List AV × XS)
 | s,[]=>some ([],s)
 | s,c :: cs=>match xfrzC s c with
   | some (d,s1)=>(match xfrzL s1 cs with
     | some (ds,s2)=>some (d :: ds,s2)
     | none=>none)
   | none=>none
def xfrzV (s:XS):AV → Option (AV × XS)
 | .agg cs=>(match xfrzL s cs with
   | some (ds,s1)=>some (.agg ds,s1)
   | none=>none)
 | v=>xfrzC s v
def xldz (n:Option Nat) (s:XS):AV → Option (AV × XS)
 | .ptr id off=>(match toE s.ob id with
   | some (.row cs)=>rd n cs off
   | _=>none).bind fun v=>xfrzV s v
 | _=>none
theorem xfrz_ok {q:Nat → Nat → Option AV} {sz:Nat} {s:XS} {x:AV} {r:AV × XS} (h:xfrz sz s x=some r):frzOf sz (toSg q s) x=some (r.1,toSg q r.2):=by
 unfold xfrz at h
 split at h
 ·simp only [frzOf]
  split at h
  ·rename_i hc
   rw [if_pos hc]
   obtain ⟨cs,h2,h⟩:=Obe.1 h
   rw [show (toSg q s).mu _=some cs from h2]
   simp only [Obs]
   split at h
   ·rename_i hl
    rw [if_pos hl]
    obtain ⟨s1,h,h3⟩:=xmu_eq (q:=q) h
    cases h
    rw [h3]
   cases h
  cases h
 ·simp only [frzOf]
  split at h
  ·rename_i hc
   rw [if_pos hc]
   cases h;rfl
  cases h
 cases h
theorem xfrzC_ok {q:Nat → Nat → Option AV} {s:XS} {x:AV} {r:AV × XS} (h:xfrzC s x=some r):frzC (toSg q s) x=some (r.1,toSg q r.2):=by
 unfold xfrzC at h
 unfold frzC
 split at h
 ·exact xfrz_ok h
 rename_i hne
 cases h
 cases x <;> first | rfl | exact absurd rfl (hne _ _ _ _)
theorem xfrzL_ok {q:Nat → Nat → Option AV}:∀ {cs:List AV} {s:XS} {r:List AV × XS},xfrzL s cs=some r → frzL (toSg q s) cs=some (r.1,toSg q r.2)
 | [],s,r,h=>by simp only [xfrzL,Oie] at h;subst h;rfl
 | c :: cs,s,r,h=>by
   simp only [xfrzL] at h
   split at h
   ·rename_i d s1 h1
    split at h
    ·rename_i ds s2 h2
     cases h
     simp only [frzL,xfrzC_ok (q:=q) h1,Obs,xfrzL_ok (q:=q) h2]
    cases h
   cases h
theorem xfrzV_ok {q:Nat → Nat → Option AV} {s:XS} {x:AV} {r:AV × XS} (h:xfrzV s x=some r):frzV (toSg q s) x=some (r.1,toSg q r.2):=by
 unfold xfrzV at h
 unfold frzV
 split at h
 ·split at h
  ·rename_i ds s1 h1
   cases h
   simp only [xfrzL_ok (q:=q) h1,Obs]
  cases h
 rename_i hne
 cases x <;> first | exact xfrzC_ok h | exact absurd rfl (hne _)
theorem xldz_ok {q:Nat → Nat → Option AV} {n:Option Nat} {s:XS} {x:AV} {r:AV × XS} (h:xldz n s x=some r):ldzOf n (toSg q s) x=some (r.1,toSg q r.2):=by
 unfold xldz at h
 split at h
 ·rename_i id off
  obtain ⟨v,h1,h2⟩:=Obe.1 h
  split at h1
  ·rename_i cs hc
   simp only [ldzOf,toSg,hc,Option.map_some,XObj.ab,h1,Obs]
   exact xfrzV_ok h2
  cases h1
 cases h
def xldv (n:Option Nat) (s:XS):AV → Option AV
 | .cptr cs off=>rd n cs off
 | .ptr id off=>(match toE s.ob id with
   | some (.row cs)=>rd n cs off
   | _=>none)
 | .mp g off=>(toE s.mu g).bind fun cs=>rd n cs off
 | _=>none
theorem xldv_ok {q:Nat → Nat → Option AV} {n:Option Nat} {s:XS} {x v:AV} (h:xldv n s x=some v):ldvOf n (toSg q s) x=some v:=by
 unfold xldv at h
 split at h
 ·exact h
 ·split at h
  ·rename_i cs hc
   simp only [ldvOf,toSg,hc,Option.map_some,XObj.ab]
   exact h
  cases h
 ·exact h
 cases h
class GlQ where
 kq:Nat → List AV → Bool
def GlQ.OK [GlQ] (q:Nat → Nat → Option AV):Prop:=∀ g cs,GlQ.kq g cs=true → ∀ j c,cs[j]?=some c → q g j=some c
section
variable [GlQ]
def xgad (g sz:Nat) (cs:List AV) (i:Int):Option AV:=if 0 ≤ i ∧ i.toNat * sz < cs.length ∧ GlQ.kq g cs=true then some (.cptr cs (i.toNat * sz)) else none
theorem xgad_ok {q:Nat → Nat → Option AV} (hq:GlQ.OK q) {g sz:Nat} {cs:List AV} {i:Int} {s:XS} {v:AV} (h:xgad g sz cs i=some v):gadOf g sz cs (toSg q s) i=some v:=by
 unfold xgad at h
 unfold gadOf
 split at h
 ·rename_i hc
  rw [if_pos ⟨hc.1,hc.2.1,hq g cs hc.2.2⟩]
  exact h
 cases h
def xbslm (sz len:Nat) (s:XS) (l:List AV):Option (AV × XS) :=
 if l.length=len ∧ l.all (fun v=>v.cells.length == sz)=true then fEs (flat (AV.ers l)) fun cs=>xmnew (some cs) s fun s'=>some (.ms s.mn 0 len sz,s') else none
end
theorem xbslm_ok {q:Nat → Nat → Option AV} {sz len:Nat} {s:XS} {l:List AV} {r:AV × XS} (h:xbslm sz len s l=some r):bslmOf sz len (toSg q s) l=some (r.1,toSg q r.2):=by
 unfold xbslm at h
 unfold bslmOf
 split at h
 ·rename_i hc
  rw [if_pos hc]
  simp only [fAs_eq,fSp_eq,fEs_eq] at h
  obtain ⟨s1,h,h3⟩:=xmnew_eq (q:=q) h
  cases h
  rw [h3]
  rfl
 cases h
section
variable [GlQ]
def xwop:WOp → XS → List AV → Option (AV × XS)
 | .mks sz by_ z,s,[n,m]=>(asN n).bind fun n=>(asN m).bind fun m=>xmks sz by_ z s n m
 | .appm sz by_,s,[b,x]=>xappm sz by_ s x b
 | .cpy sz,s,[d,x]=>xcpy sz s x d
 | .frz sz,s,[x]=>xfrz sz s x
 | .ixv len sz n,s,[x,i]=>(asN i).bind fun i=>(ixvOf len sz n i x).bind fun v=>some (v,s)
 | .snl ng,s,[x]=>(snlOf x).bind fun b=>some (.lit (.bool (if ng then !b else b)),s)
 | .mki t,s,[x]=>some (.iface t x,s)
 | .ifn ng,s,[x]=>(ifnOf x).bind fun b=>some (.lit (.bool (if ng then !b else b)),s)
 | .ldz n,s,[x]=>xldz n s x
 | .ldv n,s,[x]=>(xldv n s x).bind fun v=>some (v,s)
 | .s2b,s,[x]=>(s2bOf x).bind fun v=>some (v,s)
 | .bslm sz len,s,l=>xbslm sz len s l
 | .gad g sz cs,s,[i]=>(asN i).bind fun i=>(xgad g sz cs i).bind fun v=>some (v,s)
 | _,_,_=>none
theorem xwop_ok {q:Nat → Nat → Option AV} (hq:GlQ.OK q) {k:WOp} {s:XS} {l:List AV} {r:AV × XS} (h:xwop k s l=some r):wopOf k (toSg q s) l=some (r.1,toSg q r.2):=by
 unfold xwop at h
 split at h
 rename_i sz by_ z n m
 simp only [wopOf]
 obtain ⟨n',h1,h⟩:=Obe.1 h
 obtain ⟨m',h2,h⟩:=Obe.1 h
 rw [h1,h2]
 simp only [Obs]
 unfold xmks at h
 unfold mksOf
 split at h
 rename_i hc
 rw [if_pos hc]
 simp only [fAs_eq,fSp_eq,fEs_eq] at h
 obtain ⟨s',h,h3⟩:=xmnew_eq (q:=q) h
 cases h
 rw [h3]
 rfl
 cases h
 rename_i sz by_ b x
 simp only [wopOf]
 unfold xappm at h
 split at h
 rename_i g off len sz'
 simp only [nilS,appmOf]
 split at h
 rename_i hc
 rw [if_pos hc]
 obtain ⟨a,h1,h⟩:=Obe.1 h
 obtain ⟨cs,h2,h⟩:=Obe.1 h
 rw [xsrc_eq (q:=q)] at h1
 rw [h1]
 simp only [Obs]
 rw [show (toSg q s).mu g=some cs from h2]
 simp only [Obs]
 split at h
 rename_i hl
 rw [if_pos hl]
 split at h
 rename_i h0
 rw [if_pos h0]
 cases h;rfl
 rename_i h0
 rw [if_neg h0]
 simp only [fAs_eq,fSp_eq,fEs_eq] at h
 obtain ⟨s1,h,h3⟩:=xmu_eq (q:=q) h
 obtain ⟨s2,h,h4⟩:=xmnew_eq (q:=q) h
 cases h
 rw [h4,h3]
 have e:s1.mn=s.mn:=congrArg Sg.mn h3
 rw [e]
 rfl
 cases h
 cases h
 rename_i sz'
 simp only [nilS,appmOf]
 split at h
 rename_i hc
 rw [if_pos hc]
 obtain ⟨a,h1,h⟩:=Obe.1 h
 rw [xsrc_eq (q:=q)] at h1
 rw [h1]
 simp only [Obs]
 split at h
 rename_i hl
 rw [if_pos hl]
 split at h
 rename_i h0
 rw [if_pos h0]
 cases h;rfl
 rename_i h0
 rw [if_neg h0]
 simp only [fAs_eq,fSp_eq,fEs_eq] at h
 obtain ⟨s2,h,h4⟩:=xmnew_eq (q:=q) h
 cases h
 rw [h4]
 rfl
 cases h
 cases h
 cases h
 rename_i sz d x
 simp only [wopOf]
 unfold xcpy at h
 split at h
 simp only [cpyOf]
 split at h
 rename_i hc
 rw [if_pos hc]
 obtain ⟨a,h1,h⟩:=Obe.1 h
 obtain ⟨cs,h2,h⟩:=Obe.1 h
 rw [xsrc_eq (q:=q)] at h1
 rw [h1]
 simp only [Obs]
 rw [show (toSg q s).mu _=some cs from h2]
 simp only [Obs]
 split at h
 rename_i hl
 rw [if_pos hl]
 simp only [fAs_eq,fSp_eq,fEs_eq] at h
 obtain ⟨s1,h,h3⟩:=xmu_eq (q:=q) h
 cases h
 rw [h3]
 cases h
 cases h
 simp only [cpyOf]
 split at h
 rename_i hc
 rw [if_pos hc]
 obtain ⟨a,h1,h⟩:=Obe.1 h
 rw [xsrc_eq (q:=q)] at h1
 rw [h1]
 cases h
 rfl
 cases h
 cases h
 rename_i sz x
 simp only [wopOf]
 unfold xfrz at h
 split at h
 simp only [frzOf]
 split at h
 rename_i hc
 rw [if_pos hc]
 obtain ⟨cs,h2,h⟩:=Obe.1 h
 rw [show (toSg q s).mu _=some cs from h2]
 simp only [Obs]
 split at h
 rename_i hl
 rw [if_pos hl]
 obtain ⟨s1,h,h3⟩:=xmu_eq (q:=q) h
 cases h
 rw [h3]
 cases h
 cases h
 simp only [frzOf]
 split at h
 rename_i hc
 rw [if_pos hc]
 cases h;rfl
 cases h
 cases h
 simp only [wopOf]
 obtain ⟨n',h1,h⟩:=Obe.1 h
 obtain ⟨m',h2,h⟩:=Obe.1 h
 cases h
 rw [h1]
 simp only [Obs,h2]
 rotate_left
 cases h;rfl
 rotate_left
 exact xldz_ok h
 simp only [wopOf]
 obtain ⟨n',h1,h⟩:=Obe.1 h
 cases h
 rw [xldv_ok h1]
 simp only [Obs]
 rotate_left
 exact xbslm_ok h
 simp only [wopOf]
 obtain ⟨n',h1,h⟩:=Obe.1 h
 obtain ⟨v,h2,h⟩:=Obe.1 h
 cases h
 rw [h1]
 simp only [Obs,xgad_ok hq h2]
 cases h
 all_goals
  simp only [wopOf]
  obtain ⟨n',h1,h⟩:=Obe.1 h
  cases h
  rw [h1]
  simp only [Obs]
def xmap (s:XS) (kk:KK):AV → Option (Nat × List (Value × Option AV))
 | .map id=>(match toE s.ob id with
   | some (.map kk' f)=>if KK.same kk kk' then some (id,f) else none
   | _=>none)
 | _=>none
end
theorem xmap_ok {q:Nat → Nat → Option AV} {s:XS} {kk:KK} {m:AV} {r:Nat × List (Value × Option AV)} (h:xmap s kk m=some r):mapOf (toSg q s) kk m=some (r.1,toM r.2):=by
 unfold xmap at h
 split at h
 ·split at h
  ·rename_i hc
   split at h
   ·rename_i hk
    cases h
    simp only [mapOf,toSg,hc,Option.map_some,XObj.ab,if_pos hk]
   cases h
  cases h
 cases h
section
variable [GlQ]
def xlk (s:XS) (kk:KK) (k:Value):AV → Option (Option AV)
 | .lit (.map none)=>some none
 | m=>(xmap s kk m).bind fun r=>xget k r.2
end
theorem xlk_ok {q:Nat → Nat → Option AV} {s:XS} {kk:KK} {k:Value} {m:AV} {r:Option AV} (h:xlk s kk k m=some r):lkOf (toSg q s) kk k m=some r:=by
 unfold xlk at h
 unfold lkOf
 split at h
 ·exact h
 rename_i hm
 obtain ⟨x,h1,h⟩:=Obe.1 h
 split
 ·rename_i hh;exact absurd rfl hm
 rw [xmap_ok h1]
 simp only [Obs,xget_eq h]
section
variable [GlQ]
def xcall (call:XCaller) (l:List AV) (s:XS):AV → Option (List AV × XS)
 | .fn f a b=>fEs (AV.ers (a ++ l ++ b)) fun l=>call f l s
 | _=>none
def AOp.pure:AOp → Bool
 | .alloc _ _=>false
 | .box _ _=>false
 | .st _ _ _ _=>false
 | .sts _ _ _ _=>false
 | .mkm _=>false
 | .lk _ _ _ _ _=>false
 | .mu _ _ _ _=>false
 | .dl _ _ _=>false
 | .call _ _=>false
 | .app _ _ _ _=>false
 | .dfr _ _=>false
 | .wop _ _=>false
 | .callq _ _ _=>false
 | .inv _ _ _=>false
 | .sls _ _ _=>false
 | _=>true
end
theorem aop_pure {c:Caller} {d:Option Nat} {op:AOp} {fr:Fr} {r:Option TV × Fr} (hp:op.pure=true) (h:aop c d op fr=some r):r.2=fr:=by
 cases op <;> first
  | (cases hp;done)
  | (simp only [aop] at h
     repeat (rw [Obe] at h;obtain ⟨_,_,h⟩:=h)
     first
     | (cases h;rfl)
     | (split at h
        ·first
         | (cases h;rfl)
         | (repeat (rw [Obe] at h;obtain ⟨_,_,h⟩:=h)
            cases h;rfl)
        cases h))
end Go.Sim
namespace Go.Sim
open Go
structure SameS (f g:Fr):Prop where
 loc:f.loc=g.loc
 g:SameG f g
theorem SameS.refl (f:Fr):SameS f f:=⟨rfl,rfl,rfl,rfl,rfl⟩
theorem SameS.trans {f g h:Fr} (a:SameS f g) (b:SameS g h):SameS f h:=⟨a.loc.trans b.loc,a.g.nt.trans b.g.nt,a.g.lv.trans b.g.lv,a.g.df.trans b.g.df,a.g.sg.trans b.g.sg⟩
theorem SameS.symm {f g:Fr} (a:SameS f g):SameS g f:=⟨a.loc.symm,a.g.nt.symm,a.g.lv.symm,a.g.df.symm,a.g.sg.symm⟩
def over (f g:Fr):Fr:={ g with env:=f.env }
theorem ins_self {call:Caller} {i:AIns} {f f':Fr} (hb:i.op.bar=false) (h:ins call i f=some f'):f'=mixI i f f':=by
 have:=ins_ag (call:=call) hb (f:=f) (f':=f) ⟨fun _ _=>rfl,fun _=>rfl,fun _=>⟨rfl,rfl,rfl,rfl⟩⟩
 rw [h] at this
 simpa using this
structure Tr (call:Caller) (n:Nat) (X:Nat → AIns) (A:Nat → Nat → Prop) (W:Nat → Prop) (F:Nat → Fr):Prop where
 run:∀ k,k < n → ins call (X k) (F k)=some (F (k + 1))
 lt:∀ j i,A j i → i < j
 bar:∀ k,k < n → (X k).op.bar=false
 rd:∀ k,k < n → ¬ W k → (X k).op.wl=false ∧ (X k).op.wg=false
 slot:∀ i j,i < n → j < n → i ≠ j → ¬ A j i → ¬ A i j → ∀ d,(X i).d=some d → d ∉ (X j).rs ∧ (X j).d ≠ some d
 chain:∀ i j,i < j → j < n → W i → W j → A j i
 look:∀ i,i < n → ¬ W i → ∀ t,t ≤ n → (∀ k,k < n → W k → A i k → k < t) → (∀ k,k < n → W k → A k i → t ≤ k) →
  ∃ g,ins call (X i) (over (F i) (F t))=some g ∧ ∀ d,(X i).d=some d → g.env d=(F (i + 1)).env d
noncomputable def envS (X:Nat → AIns) (F:Nat → Fr) (S:Nat → Prop):Nat → Nat → Option TV
 | 0=>(F 0).env
 | k + 1=>open Classical in if S k then putE (X k).d (envS X F S k) (F (k + 1)).env else envS X F S k
section
variable {call:Caller} {n:Nat} {X:Nat → AIns} {A:Nat → Nat → Prop} {W:Nat → Prop} {F:Nat → Fr}
theorem Tr.env1 (T:Tr call n X A W F) {k:Nat} (hk:k < n):(F (k + 1)).env=putE (X k).d (F k).env (F (k + 1)).env:=by
 have:=ins_self (T.bar k hk) (T.run k hk)
 rw [this]
 simp only [mixI]
 cases (X k).d with
 | none=>rfl
 | some d =>
   funext s
   simp only [putE,upd]
   split
   ·rename_i e;subst e;simp
   rfl
theorem Tr.st1 (T:Tr call n X A W F) {k:Nat} (hk:k < n) (hw:¬ W k):SameS (F (k + 1)) (F k):=by
 have:=ins_self (T.bar k hk) (T.run k hk)
 obtain ⟨h1,h2⟩:=T.rd k hk hw
 refine ⟨?_,?_,?_,?_,?_⟩ <;> (rw [this];simp only [mixI,mix,h1,h2];rfl)
theorem Tr.envAll (T:Tr call n X A W F) (S:Nat → Prop):∀ k,k ≤ n → (∀ j,j < k → S j) → envS X F S k=(F k).env
 | 0,_,_=>rfl
 | k + 1,hk,h=>by
   simp only [envS,if_pos (h k (Nat.lt_succ_self k))]
   rw [T.envAll S k (by omega) fun j hj=>h j (by omega),← T.env1 (by omega)]
theorem putE_ne {d:Option Nat} {e e':Nat → Option TV} {s:Nat} (h:d ≠ some s):putE d e e' s=e s:=by
 cases d with
 | none=>rfl
 | some k=>simp only [putE,upd];rw [if_neg fun x=>h (by rw [x])]
theorem envS_skip {S:Nat → Prop} {s k:Nat} (hd:(X k).d ≠ some s):envS X F S (k + 1) s=envS X F S k s:=by
 simp only [envS]
 split
 ·exact putE_ne hd
 rfl
theorem envS_at {S S':Nat → Prop} {s:Nat}:∀ k,(∀ j,j < k → (X j).d=some s → (S j ↔ S' j)) → envS X F S k s=envS X F S' k s
 | 0,_=>rfl
 | k + 1,h=>by
   have ih:envS X F S k s=envS X F S' k s:=envS_at k fun j hj=>h j (by omega)
   by_cases hd:(X k).d=some s
   ·have:=h k (Nat.lt_succ_self k) hd
    simp only [envS]
    by_cases hs:S k
    ·rw [if_pos hs,if_pos (this.1 hs)];simp only [putE,hd,upd,if_true]
    rw [if_neg hs,if_neg fun x=>hs (this.2 x)];exact ih
   rw [envS_skip hd,envS_skip hd];exact ih
theorem envS_cut {S:Nat → Prop} {s i:Nat} (m:Nat) (h:∀ j,i ≤ j → j < i + m → (X j).d=some s → ¬ S j):envS X F S (i + m) s=envS X F S i s:=by
 induction m with
 | zero=>rfl
 | succ m ih =>
   rw [← ih fun j h1 h2=>h j h1 (by omega)]
   show envS X F S (i + m + 1) s=_
   simp only [envS]
   split
   ·rename_i hs
    exact putE_ne fun hd=>h (i + m) (by omega) (by omega) hd hs
   rfl
theorem putE_self {d:Nat} {o:Option Nat} {e e':Nat → Option TV} (h:o=some d):putE o e e' d=e' d:=by
 subst h;simp [putE,upd]
theorem Tr.reads (T:Tr call n X A W F) {S:Nat → Prop} {i s:Nat} (hi:i < n) (hS:∀ k,S k → k < n ∧ ∀ j,A k j → S j) (hn:¬ S i) (ha:∀ j,A i j → S j) (hs:s ∈ (X i).rs):envS X F S n s=(F i).env s:=by
 obtain ⟨m,rfl⟩:=Nat.exists_eq_add_of_le (Nat.le_of_lt hi)
 have hq:∀ j,j < i + m → j ≠ i → (X j).d=some s → A i j ∨ A j i:=fun j hj hne hd=>by
  by_cases h1:A i j
  ·exact .inl h1
  by_cases h2:A j i
  ·exact .inr h2
  exact absurd hs (T.slot j i hj hi hne h1 h2 s hd).1
 rw [envS_cut m (fun j h1 h2 hd hj=>by
  by_cases e:j=i
  ·exact hn (e ▸ hj)
  rcases hq j h2 e hd with h | h
  ·have:=T.lt _ _ h;omega
  exact hn ((hS j hj).2 i h))]
 rw [← T.envAll (fun k=>k < i) i (by omega) (fun j hj=>hj)]
 refine envS_at i fun j hj hd=>⟨fun _=>hj,fun _=>?_⟩
 rcases hq j (by omega) (by omega) hd with h | h
 ·exact ha j h
 have:=T.lt _ _ h;omega
theorem Tr.puts (T:Tr call n X A W F) {S:Nat → Prop} {i:Nat} (hi:i < n) (hS:∀ k,S k → k < n ∧ ∀ j,A k j → S j) (hn:¬ S i) (ha:∀ j,A i j → S j) {e:Nat → Option TV} (he:∀ d,(X i).d=some d → e d=(F (i + 1)).env d) :
 envS X F (fun k=>k=i ∨ S k) n=putE (X i).d (envS X F S n) e:=by
 funext s
 by_cases hd:(X i).d=some s
 ·rw [putE_self hd,he s hd]
  obtain ⟨m,rfl⟩:=Nat.exists_eq_add_of_le (show i + 1 ≤ n from hi)
  rw [envS_cut m (fun j h1 h2 hdj hj=>by
   rcases hj with rfl | hj
   ·omega
   by_cases h3:A j i
   ·exact hn ((hS j hj).2 i h3)
   by_cases h4:A i j
   ·have:=T.lt _ _ h4;omega
   exact (T.slot i j hi h2 (by omega) h3 h4 s hd).2 hdj)]
  simp only [envS,if_pos (Or.inl rfl:i=i ∨ S i)]
  exact putE_self hd
 rw [putE_ne hd]
 exact envS_at n fun j hj hdj=>⟨fun h=>h.resolve_left (fun e=>hd (e ▸ hdj)),.inr⟩
theorem Tr.seg (T:Tr call n X A W F) {t:Nat}:∀ m,t + m ≤ n → (∀ k,t ≤ k → k < t + m → ¬ W k) → SameS (F (t + m)) (F t)
 | 0,_,_=>SameS.refl _
 | m + 1,h,hw=>(T.st1 (k:=t + m) (by omega) (hw _ (by omega) (by omega))).trans (T.seg m (by omega) fun k h1 h2=>hw k h1 (by omega))
def RdyA (A:Nat → Nat → Prop):(Nat → Prop) → List Nat → Prop
 | _,[]=>True
 | S,x :: r=>(∀ j,A x j → S j) ∧ RdyA A (fun k=>k=x ∨ S k) r
theorem Tr.order (T:Tr call n X A W F):∀ (π:List Nat) (S:Nat → Prop) (f:Fr),(∀ k,S k → k < n ∧ ∀ j,A k j → S j) → π.Nodup → (∀ k ∈ π,k < n ∧ ¬ S k) → (∀ k,k < n → S k ∨ k ∈ π) → RdyA A S π →
 f.env=envS X F S n → (∃ t,t ≤ n ∧ SameS f (F t) ∧ ∀ k,k < n → W k → (S k ↔ k < t)) → exL call (π.map X) f=some (F n)
 | [],S,f,hS,_,_,hall,_,he,⟨t,ht,hs,hw⟩=>by
   have e1:f.env=(F n).env:=by rw [he];exact T.envAll S n (Nat.le_refl n) fun j hj=>(hall j hj).resolve_right (by simp)
   obtain ⟨m,rfl⟩:=Nat.exists_eq_add_of_le ht
   have e2:=T.seg (t:=t) m (Nat.le_refl _) fun k h1 h2 hk=>by
    have:=(hw k h2 hk).1 ((hall k h2).resolve_right (by simp))
    omega
   have e3:=hs.trans e2.symm
   exact congrArg some (Fr.ext' e1 e3.loc e3.g)
 | x :: π,S,f,hS,hnd,hin,hall,hr,he,⟨t,ht,hs,hw⟩=>by
   obtain ⟨hx,hxS⟩:=hin x (List.mem_cons_self ..)
   obtain ⟨ha,hr'⟩:=hr
   have hnd':=List.nodup_cons.1 hnd
   have hS':∀ k,(k=x ∨ S k) → k < n ∧ ∀ j,A k j → (j=x ∨ S j):=by
    rintro k (rfl | hk)
    ·exact ⟨hx,fun j hj=>.inr (ha j hj)⟩
    exact ⟨(hS k hk).1,fun j hj=>.inr ((hS k hk).2 j hj)⟩
   have hin':∀ k ∈ π,k < n ∧ ¬ (k=x ∨ S k):=fun k hk=>⟨(hin k (List.mem_cons_of_mem _ hk)).1,fun h=>h.elim (fun e=>hnd'.1 (e ▸ hk)) (hin k (List.mem_cons_of_mem _ hk)).2⟩
   have hall':∀ k,k < n → (k=x ∨ S k) ∨ k ∈ π:=fun k hk=>by
    rcases hall k hk with h | h
    ·exact .inl (.inr h)
    cases h with
    | head=>exact .inl (.inl rfl)
    | tail _ h=>exact .inr h
   have next:=T.order π (fun k=>k=x ∨ S k)
   simp only [List.map_cons,exL,Obe]
   by_cases hW:W x
   ·have htx:t ≤ x:=by
     rcases Nat.lt_or_ge x t with h | h
     ·exact absurd ((hw x hx hW).2 h) hxS
     exact h
    obtain ⟨m,hm⟩:=Nat.exists_eq_add_of_le htx
    have hseg:SameS (F x) (F t):=by
     rw [hm]
     refine T.seg m (by omega) fun k h1 h2 hk=>?_
     have:=(hw k (by omega) hk).1 (ha k (T.chain k x (by omega) hx hk hW))
     omega
    have hfx:SameS f (F x):=hs.trans hseg.symm
    have hag:AgI (X x) f (F x):=⟨fun s m=>by rw [he];exact T.reads hx hS hxS ha m,fun _=>hfx.loc,fun _=>hfx.g⟩
    have hrun:ins call (X x) f=some (mixI (X x) f (F (x + 1))):=by rw [ins_ag (T.bar x hx) hag,T.run x hx];rfl
    have hself:=ins_self (T.bar x hx) (T.run x hx)
    refine ⟨_,hrun,next _ hS' hnd'.2 hin' hall' hr' ?_ ⟨x + 1,hx,?_,fun k hk hwk=>?_⟩⟩
    ·rw [T.puts hx hS hxS ha (e:=(F (x + 1)).env) (fun _ _=>rfl),← he]
     rfl
    ·refine ⟨?_,?_,?_,?_,?_⟩
     ·conv=>rhs;rw [hself]
      simp only [mixI,mix,hfx.loc]
     ·conv=>rhs;rw [hself]
      simp only [mixI,mix,hfx.g.nt]
     ·conv=>rhs;rw [hself]
      simp only [mixI,mix,hfx.g.lv]
     ·conv=>rhs;rw [hself]
      simp only [mixI,mix,hfx.g.df]
     conv=>rhs;rw [hself]
     simp only [mixI,mix,hfx.g.sg]
    constructor
    ·rintro (rfl | h)
     ·omega
     rcases Nat.lt_or_ge x k with h' | h'
     ·exact absurd ((hS k h).2 x (T.chain x k h' hk hW hwk)) hxS
     omega
    intro h
    by_cases e:k=x
    ·exact .inl e
    exact .inr (ha k (T.chain k x (by omega) hx hwk hW))
   obtain ⟨g,hg,hgd⟩:=T.look x hx hW t ht (fun k hk hwk hak=>(hw k hk hwk).1 (ha k hak)) (fun k hk hwk hak=>by
    rcases Nat.lt_or_ge k t with h | h
    ·exact absurd ((hS k ((hw k hk hwk).2 h)).2 x hak) hxS
    exact h)
   have hag:AgI (X x) f (over (F x) (F t)):=⟨fun s m=>by rw [he];exact T.reads hx hS hxS ha m,fun _=>hs.loc,fun _=>⟨hs.g.nt,hs.g.lv,hs.g.df,hs.g.sg⟩⟩
   have hrun:ins call (X x) f=some (mixI (X x) f g):=by rw [ins_ag (T.bar x hx) hag,hg];rfl
   obtain ⟨w1,w2⟩:=T.rd x hx hW
   have hsf:SameS (mixI (X x) f g) f:=by
    refine ⟨?_,?_,?_,?_,?_⟩ <;> (simp only [mixI,mix,w1,w2];rfl)
   refine ⟨_,hrun,next _ hS' hnd'.2 hin' hall' hr' ?_ ⟨t,ht,hsf.trans hs,fun k hk hwk=>?_⟩⟩
   ·rw [T.puts hx hS hxS ha (e:=g.env) hgd,← he]
    rfl
   rw [← hw k hk hwk]
   exact ⟨fun h=>h.resolve_left (fun e=>hW (e ▸ hwk)),.inr⟩
theorem envS_none:∀ k,envS X F (fun _=>False) k=(F 0).env
 | 0=>rfl
 | k + 1=>by simp only [envS,if_neg (fun h:False=>h)];exact envS_none k
theorem rdy_of {D:List (List Nat)}:∀ (π:List Nat) (done:List Nat) (S:Nat → Prop),(∀ k,S k ↔ k ∈ done) → (∀ k,S k → ∀ j,Anc (fun i=>D.getD i []) k j → S j) → Ready D done π → RdyA (Anc fun i=>D.getD i []) S π
 | [],_,_,_,_,_=>trivial
 | x :: π,done,S,hS,hc,hr=>by
   have ha:∀ j,Anc (fun i=>D.getD i []) x j → S j:=fun j hj=>by
    cases hj with
    | one h=>exact (hS j).2 (hr.1 j h)
    | step h h'=>exact hc _ ((hS _).2 (hr.1 _ h)) j h'
   refine ⟨ha,rdy_of π (x :: done) _ (fun k=>?_) ?_ hr.2⟩
   ·rw [List.mem_cons,hS k]
   rintro k (rfl | hk) j hj
   ·exact .inr (ha j hj)
   exact .inr (hc k hk j hj)
theorem Tr.any {l:List AIns} {D:List (List Nat)} (T:Tr call l.length (fun k=>l.getD k dum) (Anc fun i=>D.getD i []) W F):anyOrder call l D (F 0) (F l.length):=by
 intro π hp hr
 refine T.order π (fun _=>False) (F 0) (fun k h=>h.elim) ?_ (fun k hk=>⟨List.mem_range.1 (hp.subset hk),fun h=>h⟩) (fun k hk=>.inr (hp.symm.subset (List.mem_range.2 hk))) (rdy_of π [] _ (fun k=>by simp) (fun k h=>h.elim) hr) (envS_none _).symm ⟨0,Nat.zero_le _,SameS.refl _,fun k _ _=>by simp⟩
 exact hp.nodup_iff.2 List.nodup_range
end
end Go.Sim
namespace Go.Sim
open Go
section
variable [GlQ]
def XOK (q:Nat → Nat → Option AV) (xc:XCaller) (c:Caller):Prop:=GlQ.OK q ∧ ∀ f a xs r,xc f a xs=some r → c f a (toSg q xs)=some (r.1,toSg q r.2)
def xinv (call:XCaller) (tb:List (Nat × Nat)) (l:List AV) (s:XS):AV → Option (List AV × XS)
 | .iface t v=>(match tb.find? fun q=>q.1 == t with
   | some q=>fEs (AV.ers (v :: l)) fun l=>fN q.2 fun f=>call f l s
   | none=>none)
 | _=>none
end
theorem extract_list (s:ByteArray) (l h:Nat):s.extract l h=⟨⟨(s.data.toList.drop l).take (h - l)⟩⟩:=by
 apply ByteArray.ext
 apply Array.ext'
 rw [ByteArray.data_extract,Array.toList_extract,List.extract_eq_take_drop]
section
variable [GlQ]
def xslsOf (e:Nat → Option TV) (lo hi:Option AO):AV → Option AV
 | .lit (.string s)=>(boundOf e lo 0).bind fun l=>(boundOf e hi s.size).bind fun h =>
    if l ≤ h ∧ h ≤ s.size then fSp ((s.data.toList.drop l).take (h - l)) fun u=>some (.lit (.string ⟨⟨u⟩⟩)) else none
 | _=>none
end
theorem xslsOf_eq {fr:Fr} {lo hi:Option AO} {v:AV}:xslsOf fr.env lo hi v=slsOf fr lo hi v:=by
 cases v with
 | lit q =>
   cases q <;> first
    | rfl
    | simp only [xslsOf,slsOf,fSp_eq,extract_list]
 | _=>rfl
section
variable [GlQ]
noncomputable def xop (call:XCaller) (d:Option Nat) (op:AOp) (x:XFr):Option (Option TV × XFr) :=
 match op with
 | .alloc true z=>d.bind fun i=>match x with
   | ⟨env,loc,nt,lv,df,sg⟩=>xdropK i env fun env=>some (some (.loc i 0),⟨env,(i,some z) :: loc,nt,lv,df,sg⟩)
 | .alloc false z=>match x with
   | ⟨env,loc,nt,lv,df,sg⟩=>xnew (.row z) sg fun s=>some (some (.val (.ptr sg.nx 0)),⟨env,loc,nt,lv,df,s⟩)
 | .box true o=>d.bind fun i=>(evV (toE x.env) o).bind fun v=>match x with
   | ⟨env,loc,nt,lv,df,sg⟩=>fSp v.cells fun cs=>xdropK i env fun env=>some (some (.loc i 0),⟨env,(i,some cs) :: loc,nt,lv,df,sg⟩)
 | .box false o=>(evV (toE x.env) o).bind fun v=>match x with
   | ⟨env,loc,nt,lv,df,sg⟩=>fEs (AV.erTs v.cells) fun cs=>xnew (.row cs) sg fun s=>some (some (.val (.ptr sg.nx 0)),⟨env,loc,nt,lv,df,s⟩)
 | .st h n a o=>(ev (toE x.env) a).bind fun p=>(evV (toE x.env) o).bind fun v=>if v.cells.length=n then (xst x h v p).bind fun x'=>some (none,x') else none
 | .sts m n a o=>(evV (toE x.env) a).bind fun p=>(evV (toE x.env) o).bind fun v=>match stsK m n v p with
   | true=>(xst x true v (.val p)).bind fun x'=>some (none,x')
   | false=>none
 | .mkm kk=>match x with
   | ⟨env,loc,nt,lv,df,sg⟩=>xnew (.map kk []) sg fun s=>some (some (.val (.map sg.nx)),⟨env,loc,nt,lv,df,s⟩)
 | .lk kk z ok m k=>(evV (toE x.env) m).bind fun m=>(evV (toE x.env) k).bind fun k=>(keyOf kk k).bind fun k=>(xlk x.sg kk k m).bind fun r=>some (some (if ok then .tup [r.getD z,.lit (.bool r.isSome)] else .val (r.getD z)),x)
 | .mu kk m k v=>(evV (toE x.env) m).bind fun m=>(evV (toE x.env) k).bind fun k=>(keyOf kk k).bind fun k=>(evV (toE x.env) v).bind fun v=>(xmap x.sg kk m).bind fun r=>fV k fun k=>fE dp v.er fun v=>match x with
   | ⟨env,loc,nt,lv,df,sg⟩=>xput r.1 (.map kk ((k,some v) :: r.2)) sg fun s=>some (none,⟨env,loc,nt,lv,df,s⟩)
 | .dl kk m k=>(evV (toE x.env) m).bind fun m=>(evV (toE x.env) k).bind fun k=>(keyOf kk k).bind fun k=>(xmap x.sg kk m).bind fun r=>fV k fun k=>match x with
   | ⟨env,loc,nt,lv,df,sg⟩=>xput r.1 (.map kk ((k,none) :: r.2)) sg fun s=>some (none,⟨env,loc,nt,lv,df,s⟩)
 | .call f as=>(evV (toE x.env) f).bind fun g=>(evVs (toE x.env) as).bind fun l=>match x with
   | ⟨env,loc,nt,lv,df,sg⟩=>match xcall call l sg g with
     | some (rs,s')=>some (some (toTV rs),⟨env,loc,nt,lv,df,s'⟩)
     | none=>none
 | .callq ks f as=>(evV (toE x.env) f).bind fun g=>(evVs (toE x.env) as).bind fun l=>match x with
   | ⟨env,loc,nt,lv,df,sg⟩=>match xcall call l sg g with
     | some (rs,s')=>(match xkeeps env sg s' ks with
       | true=>some (some (toTV rs),⟨env,loc,nt,lv,df,s'⟩)
       | false=>none)
     | none=>none
 | .inv tb f as=>(evV (toE x.env) f).bind fun g=>(evVs (toE x.env) as).bind fun l=>match x with
   | ⟨env,loc,nt,lv,df,sg⟩=>match xinv call tb l sg g with
     | some (rs,s')=>some (some (toTV rs),⟨env,loc,nt,lv,df,s'⟩)
     | none=>none
 | .app sz by_ s o=>(evV (toE x.env) s).bind fun a=>(evV (toE x.env) o).bind fun b=>(sliceOf sz a).bind fun a=>(sliceOf sz b).bind fun b=>xapp sz by_ x a.1 a.2 b.2
 | .dfr f as=>(evV (toE x.env) f).bind fun g=>(evVs (toE x.env) as).bind fun l=>match g with
   | .fn f a b=>match x with
     | ⟨env,loc,nt,lv,df,sg⟩=>fEs (AV.ers (a ++ l ++ b)) fun l=>some (none,⟨env,loc,nt,lv,(f,l) :: df,sg⟩)
   | _=>none
 | .wop k xs=>(evVs (toE x.env) xs).bind fun l=>match x with
   | ⟨env,loc,nt,lv,df,sg⟩=>match xwop k sg l with
     | some (v,s')=>some (some (.val v),⟨env,loc,nt,lv,df,s'⟩)
     | none=>none
 | .sls o lo hi=>(evV (toE x.env) o).bind fun a=>(xslsOf (toE x.env) lo hi a).bind fun v=>some (some (.val v),x)
 | op=>(aop (fun _ _ _=>none) d op (toFr (fun _ _=>none) x)).bind fun r=>some (r.1,x)
end
theorem mapb {α β γ:Type} (o:Option α) (f:α → Option β) (g:β → γ):(o.bind f).map g=o.bind fun a=>(f a).map g:=by cases o <;> rfl
theorem bindc {α β:Type} {o:Option α} {f g:α → Option β} (h:∀ a,f a=g a):o.bind f=o.bind g:=by cases o <;> first | rfl | exact h _
theorem aop_q {c:Caller} {q:Nat → Nat → Option AV} {d:Option Nat} {op:AOp} {x:XFr} {r:Option TV × Fr} (hp:op.pure=true) (h:aop (fun _ _ _=>none) d op (toFr (fun _ _=>none) x)=some r):aop c d op (toFr q x)=some (r.1,toFr q x):=by
 have key:(aop c d op (toFr q x)).map Prod.fst=(aop (fun _ _ _=>none) d op (toFr (fun _ _=>none) x)).map Prod.fst:=by
  cases op <;> first
   | (cases hp;done)
   | skip
  case ld hh n a =>
   simp only [aop,mapb]
   refine bindc (o:=ev (toE x.env) a) fun p=>?_
   have e:ldAt (toFr q x) hh n p=ldAt (toFr (fun _ _=>none) x) hh n p:=by
    cases p with
    | val v=>cases v <;> rfl
    | _=>rfl
   simp only [e]
   cases ldAt (toFr (fun _ _=>none) x) hh n p <;> rfl
  all_goals
   simp only [aop,toFr,mapb]
   repeat (first
    | rfl
    | (refine bindc fun _=>?_)
    | (split <;> first | rfl | (simp only [mapb];done) | (simp only [mapb];refine bindc fun _=>rfl))
    | (simp only [mapb]))
 rw [h] at key
 simp only [Option.map_some] at key
 obtain ⟨y,h1,h2⟩:=Option.map_eq_some_iff.1 key
 have h3:=aop_pure hp h1
 rw [h1]
 obtain ⟨a,b⟩:=y
 simp only at h2 h3
 rw [h2,h3]
section
variable [GlQ]
theorem xop_ok {q:Nat → Nat → Option AV} {xc:XCaller} {c:Caller} (hc:XOK q xc c) {d:Option Nat} {op:AOp} {x:XFr} {r:Option TV × XFr} (h:xop xc d op x=some r):aop c d op (toFr q x)=some (r.1,toFr q r.2):=by
 by_cases hp:op.pure=true
 ·have h':(aop (fun _ _ _=>none) d op (toFr (fun _ _=>none) x)).bind (fun r=>some (r.1,x))=some r:=by
   cases op <;> first
    | exact h
    | (cases hp;done)
  obtain ⟨y,h1,h2⟩:=Obe.1 h'
  cases h2
  exact aop_q hp h1
 cases op <;> first
  | exact absurd rfl hp
  | skip
 case alloc lc z =>
  obtain ⟨env,loc,nt,lv,df,sg⟩:=x
  cases lc with
  | true =>
    simp only [xop] at h
    obtain ⟨i,hi,h2⟩:=Obe.1 h
    subst hi
    simp only [xdropK_eq,Oie] at h2
    subst h2
    simp only [aop,Obs,toFr,toE_xdrop,toE_cons]
  | false =>
    simp only [xop] at h
    obtain ⟨s',h,h1⟩:=xnew_eq (q:=q) h
    cases h
    simp only [aop,toFr,h1]
    rfl
 case box lc z =>
  obtain ⟨env,loc,nt,lv,df,sg⟩:=x
  cases lc with
  | true =>
    simp only [xop] at h
    obtain ⟨i,hi,h2⟩:=Obe.1 h
    subst hi
    obtain ⟨v,h1,h3⟩:=Obe.1 h2
    simp only [fAs_eq,fSp_eq,fEs_eq,xdropK_eq,Oie] at h3
    subst h3
    simp only [aop,Obs,toFr,toE_xdrop,toE_cons,h1]
  | false =>
    simp only [xop] at h
    obtain ⟨v,h1,h⟩:=Obe.1 h
    simp only [fAs_eq,fSp_eq,fEs_eq] at h
    obtain ⟨s',h,h2⟩:=xnew_eq (q:=q) h
    cases h
    simp only [aop,toFr,h1,h2,Obs]
    rfl
 case st hh n a o =>
  simp only [xop] at h
  obtain ⟨p,h1,h⟩:=Obe.1 h
  obtain ⟨v,h2,h⟩:=Obe.1 h
  split at h
  ·rename_i hn
   obtain ⟨x',h3,h⟩:=Obe.1 h
   cases h
   simp only [aop]
   rw [show ev (toFr q x).env a=some p from h1,show evV (toFr q x).env o=some v from h2]
   simp only [Obs,if_pos hn,xst_ok (q:=q) h3]
  cases h
 case sts m n a o =>
  simp only [xop] at h
  obtain ⟨p,h1,h⟩:=Obe.1 h
  obtain ⟨v,h2,h⟩:=Obe.1 h
  split at h
  ·rename_i hk
   obtain ⟨x',h3,h⟩:=Obe.1 h
   cases h
   have h4:=xst_ok (q:=q) h3
   rw [(sts_st (fr:=toFr q x) hk).2] at h4
   obtain ⟨s',h5,h6⟩:=Option.map_eq_some_iff.1 h4
   simp only [aop]
   rw [show evV (toFr q x).env a=some p from h1,show evV (toFr q x).env o=some v from h2]
   simp only [Obs,h5,h6]
  cases h
 case mkm kk =>
  obtain ⟨env,loc,nt,lv,df,sg⟩:=x
  simp only [xop] at h
  obtain ⟨s',h,h1⟩:=xnew_eq (q:=q) h
  cases h
  simp only [aop,toFr,h1]
  rfl
 case lk kk z ok m k =>
  simp only [xop] at h
  obtain ⟨m',h1,h⟩:=Obe.1 h
  obtain ⟨k',h2,h⟩:=Obe.1 h
  obtain ⟨k2,h3,h⟩:=Obe.1 h
  obtain ⟨r',h4,h⟩:=Obe.1 h
  cases h
  simp only [aop]
  rw [show evV (toFr q x).env m=some m' from h1,show evV (toFr q x).env k=some k' from h2]
  simp only [Obs,h3]
  rw [show lkOf (toFr q x).sg kk k2 m'=some r' from xlk_ok h4]
  rfl
 case mu kk m k v =>
  simp only [xop] at h
  obtain ⟨m',h1,h⟩:=Obe.1 h
  obtain ⟨k',h2,h⟩:=Obe.1 h
  obtain ⟨k2,h3,h⟩:=Obe.1 h
  obtain ⟨v',h4,h⟩:=Obe.1 h
  obtain ⟨r',h5,h⟩:=Obe.1 h
  simp only [fV_eq,fA_eq,fE_eq] at h
  obtain ⟨env,loc,nt,lv,df,sg⟩:=x
  obtain ⟨s',h,h6⟩:=xput_eq (q:=q) h
  cases h
  simp only [aop]
  rw [show evV (toFr q _).env m=some m' from h1,show evV (toFr q _).env k=some k' from h2]
  simp only [Obs,h3]
  rw [show evV (toFr q _).env v=some v' from h4]
  simp only [Obs]
  rw [show mapOf (toFr q _).sg kk m'=some (r'.1,toM r'.2) from xmap_ok h5]
  simp only [Obs,toFr,h6,XObj.ab,toM]
 case dl kk m k =>
  simp only [xop] at h
  obtain ⟨m',h1,h⟩:=Obe.1 h
  obtain ⟨k',h2,h⟩:=Obe.1 h
  obtain ⟨k2,h3,h⟩:=Obe.1 h
  obtain ⟨r',h5,h⟩:=Obe.1 h
  simp only [fV_eq] at h
  obtain ⟨env,loc,nt,lv,df,sg⟩:=x
  obtain ⟨s',h,h6⟩:=xput_eq (q:=q) h
  cases h
  simp only [aop]
  rw [show evV (toFr q _).env m=some m' from h1,show evV (toFr q _).env k=some k' from h2]
  simp only [Obs,h3]
  rw [show mapOf (toFr q _).sg kk m'=some (r'.1,toM r'.2) from xmap_ok h5]
  simp only [Obs,toFr,h6,XObj.ab,toM]
 case call f as =>
  simp only [xop] at h
  obtain ⟨g,h1,h⟩:=Obe.1 h
  obtain ⟨l,h2,h⟩:=Obe.1 h
  obtain ⟨env,loc,nt,lv,df,sg⟩:=x
  simp only at h
  obtain ⟨rs,s',h3,rfl⟩:∃ rs s',xcall xc l sg g=some (rs,s') ∧ r=(some (toTV rs),⟨env,loc,nt,lv,df,s'⟩):=by
   split at h
   ·rename_i rs s' h3
    exact ⟨rs,s',h3,(Option.some.inj h).symm⟩
   cases h
  simp only [aop]
  rw [show evV (toFr q _).env f=some g from h1,show evVs (toFr q _).env as=some l from h2]
  simp only [Obs]
  have h4:callOf c l (toSg q sg) g=some (rs,toSg q s'):=by
   unfold xcall at h3
   split at h3
   ·simp only [fAs_eq,fSp_eq,fEs_eq] at h3
    exact hc.2 _ _ _ _ h3
   cases h3
  rw [show (toFr q ⟨env,loc,nt,lv,df,sg⟩).sg=toSg q sg from rfl,h4]
  rfl
 case inv tb f as =>
  simp only [xop] at h
  obtain ⟨g,h1,h⟩:=Obe.1 h
  obtain ⟨l,h2,h⟩:=Obe.1 h
  obtain ⟨env,loc,nt,lv,df,sg⟩:=x
  simp only at h
  obtain ⟨rs,s',h3,rfl⟩:∃ rs s',xinv xc tb l sg g=some (rs,s') ∧ r=(some (toTV rs),⟨env,loc,nt,lv,df,s'⟩):=by
   split at h
   ·rename_i rs s' h3
    exact ⟨rs,s',h3,(Option.some.inj h).symm⟩
   cases h
  simp only [aop]
  rw [show evV (toFr q _).env f=some g from h1,show evVs (toFr q _).env as=some l from h2]
  simp only [Obs]
  have h4:invOf c tb l (toSg q sg) g=some (rs,toSg q s'):=by
   unfold xinv at h3
   split at h3
   ·split at h3
    ·rename_i t v p hp
     simp only [fAs_eq,fSp_eq,fEs_eq,fN_eq] at h3
     simp only [invOf,hp,Obs]
     exact hc.2 _ _ _ _ h3
    cases h3
   cases h3
  rw [show (toFr q ⟨env,loc,nt,lv,df,sg⟩).sg=toSg q sg from rfl,h4]
  rfl
 case callq ks f as =>
  simp only [xop] at h
  obtain ⟨g,h1,h⟩:=Obe.1 h
  obtain ⟨l,h2,h⟩:=Obe.1 h
  obtain ⟨env,loc,nt,lv,df,sg⟩:=x
  simp only at h
  obtain ⟨rs,s',h3,hk,rfl⟩:∃ rs s',xcall xc l sg g=some (rs,s') ∧ xkeeps env sg s' ks=true ∧ r=(some (toTV rs),⟨env,loc,nt,lv,df,s'⟩):=by
   split at h
   ·rename_i rs s' h3
    split at h
    ·rename_i hk
     exact ⟨rs,s',h3,hk,(Option.some.inj h).symm⟩
    cases h
   cases h
  simp only [aop]
  rw [show evV (toFr q _).env f=some g from h1,show evVs (toFr q _).env as=some l from h2]
  simp only [Obs]
  have h4:callOf c l (toSg q sg) g=some (rs,toSg q s'):=by
   unfold xcall at h3
   split at h3
   ·simp only [fAs_eq,fSp_eq,fEs_eq] at h3
    exact hc.2 _ _ _ _ h3
   cases h3
  rw [show (toFr q ⟨env,loc,nt,lv,df,sg⟩).sg=toSg q sg from rfl,h4]
  simp only [Obs,qres]
  rw [if_pos (show keeps (toFr q ⟨env,loc,nt,lv,df,sg⟩).env (toFr q ⟨env,loc,nt,lv,df,sg⟩).sg (toSg q s') ks from xkeeps_ok hk)]
  rfl
 case app sz by_ s o =>
  simp only [xop] at h
  obtain ⟨a,h1,h⟩:=Obe.1 h
  obtain ⟨b,h2,h⟩:=Obe.1 h
  obtain ⟨a',h3,h⟩:=Obe.1 h
  obtain ⟨b',h4,h⟩:=Obe.1 h
  simp only [aop]
  rw [show evV (toFr q _).env s=some a from h1,show evV (toFr q _).env o=some b from h2]
  simp only [Obs,h3,h4]
  exact xapp_ok h
 case dfr f as =>
  simp only [xop] at h
  obtain ⟨g,h1,h⟩:=Obe.1 h
  obtain ⟨l,h2,h⟩:=Obe.1 h
  obtain ⟨env,loc,nt,lv,df,sg⟩:=x
  split at h
  ·simp only [fAs_eq,fSp_eq,fEs_eq] at h
   cases h
   simp only [aop]
   rw [show evV (toFr q _).env f=some _ from h1,show evVs (toFr q _).env as=some l from h2]
   rfl
  cases h
 case sls o lo hi =>
  simp only [xop] at h
  obtain ⟨a,h1,h⟩:=Obe.1 h
  obtain ⟨v,h2,h⟩:=Obe.1 h
  cases h
  simp only [aop]
  rw [show evV (toFr q x).env o=some a from h1]
  simp only [Obs]
  rw [← xslsOf_eq,show xslsOf (toFr q x).env lo hi a=some v from h2]
  rfl
 case wop k xs =>
  simp only [xop] at h
  obtain ⟨l,h1,h⟩:=Obe.1 h
  obtain ⟨env,loc,nt,lv,df,sg⟩:=x
  simp only at h
  obtain ⟨v,s',h2,rfl⟩:∃ v s',xwop k sg l=some (v,s') ∧ r=(some (.val v),⟨env,loc,nt,lv,df,s'⟩):=by
   split at h
   ·rename_i rs s' h3
    exact ⟨rs,s',h3,(Option.some.inj h).symm⟩
   cases h
  simp only [aop]
  rw [show evVs (toFr q _).env xs=some l from h1]
  simp only [Obs]
  rw [show wopOf k (toFr q ⟨env,loc,nt,lv,df,sg⟩).sg l=some (v,toSg q s') from xwop_ok hc.1 h2]
  rfl
def xputD (x:XFr) (d:Option Nat) (v:Option TV):XFr :=
 match d with
 | some i=>match x with
   | ⟨env,loc,nt,lv,df,sg⟩=>⟨(i,v) :: env,loc,nt,lv,df,sg⟩
 | none=>x
end
theorem xputD_ok {q:Nat → Nat → Option AV} {x:XFr} {d:Option Nat} {v:Option TV}:toFr q (xputD x d v)=putD (toFr q x) d v:=by
 cases d with
 | none=>rfl
 | some i=>obtain ⟨env,loc,nt,lv,df,sg⟩:=x;simp only [xputD,putD,toFr,toE_cons]
section
variable [GlQ]
noncomputable def xrun1 (call:XCaller) (i:AIns) (x:XFr):Option XFr:=match xop call i.d i.op x with
 | some (tv,x')=>(match i.op with
   | .mv _=>some (xputD x' i.d tv)
   | .sls _ _ _=>some (xputD x' i.d tv)
   | .pick _ _ _=>some (xputD x' i.d tv)
   | .ld _ none _=>some (xputD x' i.d tv)
   | .ld _ _ _=>fTE tv fun tv=>some (xputD x' i.d tv)
   | .ext _ _=>some (xputD x' i.d tv)
   | .call _ _=>some (xputD x' i.d tv)
   | .callq _ _ _=>some (xputD x' i.d tv)
   | .build _ _=>fTE tv fun tv=>some (xputD x' i.d tv)
   | .bsl _ _=>fTE tv fun tv=>some (xputD x' i.d tv)
   | _=>fTo tv fun tv=>some (xputD x' i.d tv))
 | none=>none
noncomputable def xins (call:XCaller) (i:AIns) (x:XFr):Option XFr :=
 match i.g with
 | none=>xrun1 call i x
 | some (s,want)=>(toE x.env s).bind fun tv=>(guardOf tv).bind fun y=>if y=some want then xrun1 call i x else some (xputD x i.d (some .und))
noncomputable def xexL (call:XCaller):List AIns → XFr → Option XFr
 | [],x=>some x
 | i :: l,x=>match xins call i x with
   | some x'=>xexL call l x'
   | none=>none
theorem xrun1_ok {q:Nat → Nat → Option AV} {xc:XCaller} {c:Caller} (hc:XOK q xc c) {i:AIns} {x x':XFr} (h:xrun1 xc i x=some x'):run1 c i (toFr q x)=some (toFr q x'):=by
 unfold xrun1 at h
 split at h
 ·rename_i tv y h1
  have h':xputD y i.d tv=x':=by
   split at h <;> simpa only [fTo_eq,fTE_eq,Oie] using h
  subst h'
  simp only [run1,xop_ok hc h1,Obs,xputD_ok]
 cases h
theorem xins_ok {q:Nat → Nat → Option AV} {xc:XCaller} {c:Caller} (hc:XOK q xc c) {i:AIns} {x x':XFr} (h:xins xc i x=some x'):ins c i (toFr q x)=some (toFr q x'):=by
 unfold xins at h
 unfold ins
 split at h
 ·rename_i hg
  rw [hg]
  exact xrun1_ok hc h
 rename_i s want hg
 rw [hg]
 obtain ⟨tv,h1,h⟩:=Obe.1 h
 obtain ⟨y,h2,h⟩:=Obe.1 h
 simp only
 rw [show (toFr q x).env s=some tv from h1]
 simp only [Obs,h2]
 split at h
 ·rename_i hy
  rw [if_pos hy]
  exact xrun1_ok hc h
 rename_i hy
 rw [if_neg hy]
 cases h
 rw [xputD_ok]
theorem xexL_ok {q:Nat → Nat → Option AV} {xc:XCaller} {c:Caller} (hc:XOK q xc c):∀ {l:List AIns} {x x':XFr},xexL xc l x=some x' → exL c l (toFr q x)=some (toFr q x')
 | [],x,x',h=>by cases h;rfl
 | i :: l,x,x',h=>by
   simp only [xexL] at h
   split at h
   ·rename_i y h1
    simp only [exL,xins_ok hc h1,Obs]
    exact xexL_ok hc h
   cases h
def xfresh {α:Type}:List Nat → XFr → (XFr → Option α) → Option α
 | [],x,k=>k x
 | d :: ds,x,k=>xfresh ds x fun x=>match x with
   | ⟨env,loc,nt,lv,df,sg⟩=>xdropK d env fun env=>k ⟨env,(d,none) :: loc,nt,lv,df,sg⟩
end
theorem xfresh_ok {α:Type} {q:Nat → Nat → Option AV}:∀ {ds:List Nat} {x:XFr} {k:XFr → Option α} {r:α},xfresh ds x k=some r → ∃ x',k x'=some r ∧ toFr q x'=(toFr q x).fresh ds
 | [],x,k,r,h=>⟨x,h,rfl⟩
 | d :: ds,x,k,r,h=>by
   simp only [xfresh] at h
   obtain ⟨y,h,h1⟩:=xfresh_ok (q:=q) h
   obtain ⟨env,loc,nt,lv,df,sg⟩:=y
   simp only [xdropK_eq] at h
   refine ⟨_,h,?_⟩
   simp only [Fr.fresh,← h1]
   simp only [toFr,toE_xdrop,toE_cons]
section
variable [GlQ]
def xover (x y:XFr):XFr:=match x with
 | ⟨e,_,_,_,_,_⟩=>match y with
   | ⟨_,loc,nt,lv,df,sg⟩=>⟨e,loc,nt,lv,df,sg⟩
end
theorem xover_eq {q:Nat → Nat → Option AV} {x y:XFr}:toFr q (xover x y)=over (toFr q x) (toFr q y):=rfl
section
variable [GlQ]
def beqT:Option TV → Option TV → Bool
 | some (.val a),some (.val b)=>beqA dp a b
 | some (.loc i o),some (.loc j p)=>Nat.beq i j && Nat.beq o p
 | some .und,some .und=>true
 | some (.tup a),some (.tup b)=>beqL (beqA dp) a b
 | none,none=>true
 | _,_=>false
end
theorem beqT_eq {a b:Option TV} (h:beqT a b=true):a=b:=by
 unfold beqT at h
 split at h
 ·rw [beqA_eq dp _ _ h]
 ·simp only [Bae] at h
  rw [Nat.eq_of_beq_eq_true h.1,Nat.eq_of_beq_eq_true h.2]
 ·rfl
 ·rw [beqL_eq (beqA_eq dp) h]
 ·rfl
 cases h
section
variable [GlQ]
noncomputable def xtrace (call:XCaller):List AIns → XFr → Option (List XFr)
 | [],x=>some [x]
 | i :: l,x=>match xins call i x with
   | some x'=>(match xtrace call l x' with
     | some t=>some (x :: t)
     | none=>none)
   | none=>none
theorem xtrace_ok {call:XCaller}:∀ {l:List AIns} {x:XFr} {tr:List XFr},xtrace call l x=some tr → tr.length=l.length + 1 ∧ tr[0]?=some x ∧ ∀ k,k < l.length → ∃ y z,tr[k]?=some y ∧ tr[k + 1]?=some z ∧ xins call (l.getD k dum) y=some z
 | [],x,tr,h=>by cases h;exact ⟨rfl,rfl,fun k hk=>by simp at hk⟩
 | i :: l,x,tr,h=>by
   simp only [xtrace] at h
   split at h
   ·rename_i x' h1
    split at h
    ·rename_i t h2
     cases h
     obtain ⟨g1,g2,g3⟩:=xtrace_ok h2
     refine ⟨by simp [g1],rfl,fun k hk=>?_⟩
     cases k with
     | zero=>exact ⟨x,x',rfl,by simpa using g2,by simpa using h1⟩
     | succ k =>
       obtain ⟨y,z,a,b,c⟩:=g3 k (by simpa using hk)
       exact ⟨y,z,by simpa using a,by simpa using b,by simpa using c⟩
    cases h
   cases h
def wB (i:AIns):Bool:=i.op.wl || i.op.wg
def bitB (ms:List Nat) (j i:Nat):Bool:=(ms.getD j 0).testBit i
def slotFree (i j:AIns):Bool :=
 (match i.d with
   | some d=>!j.rs.contains d
   | none=>true) &&
 (match j.d with
   | some d=>!i.rs.contains d
   | none=>true) &&
 (match i.d,j.d with
   | some d,some e=>d != e
   | _,_=>true)
def statOk (l:List AIns) (D:List (List Nat)) (ms:List Nat):Bool :=
 (List.range l.length).all (fun k=>(D.getD k []).all fun d=>decide (d < k)) && D.length == l.length && (List.range l.length).all (fun k=>!(l.getD k dum).op.bar) &&
 (List.range l.length).all fun j=>(List.range j).all fun i=>bitB ms j i || (slotFree (l.getD i dum) (l.getD j dum) && !(wB (l.getD i dum) && wB (l.getD j dum)))
def admB (l:List AIns) (ms:List Nat) (i t:Nat):Bool :=
 (List.range l.length).all fun k=>!(wB (l.getD k dum)) || ((!(bitB ms i k) || decide (k < t)) && (!(bitB ms k i) || decide (t ≤ k)))
noncomputable def lookOk (call:XCaller) (l:List AIns) (ms:List Nat) (tr:List XFr):Bool :=
 (List.range l.length).all fun i=>wB (l.getD i dum) || !((l.getD i dum).op.rl || (l.getD i dum).op.rg) ||
   (List.range (l.length + 1)).all fun t=>!((Nat.beq t 0 || wB (l.getD (t - 1) dum)) && admB l ms i t) || (match tr[i]? with
     | some xi=>(match tr[t]? with
       | some xt=>(match tr[i + 1]? with
         | some xn=>(match xins call (l.getD i dum) (xover xi xt) with
           | some g=>(match (l.getD i dum).d with
             | some d=>beqT (toE g.env d) (toE xn.env d)
             | none=>true)
           | none=>false)
         | none=>false)
       | none=>false)
     | none=>false)
end
theorem bit_anc {D:List (List Nat)}:∀ j i,bitB (masks D []) j i=true → Anc (fun i=>D.getD i []) j i :=
 masks_ok (D:=fun i=>D.getD i []) D [] (fun k hk=>by simp [List.getD_eq_getElem?_getD,List.getElem?_eq_getElem hk]) (fun j i h=>by simp at h)
theorem free_d {i j:AIns} (h:slotFree i j=true):(∀ d,i.d=some d → d ∉ j.rs ∧ j.d ≠ some d) ∧ (∀ d,j.d=some d → d ∉ i.rs ∧ i.d ≠ some d):=by
 unfold slotFree at h
 simp only [Bae] at h
 obtain ⟨⟨h1,h2⟩,h3⟩:=h
 constructor
 ·intro d hd
  rw [hd] at h1 h3
  refine ⟨by simpa using h1,fun e=>?_⟩
  rw [e] at h3
  simp at h3
 intro d hd
 rw [hd] at h2 h3
 refine ⟨by simpa using h2,fun e=>?_⟩
 rw [e] at h3
 simp at h3
theorem anc_lt {D:List (List Nat)} (h:∀ k d,d ∈ D.getD k [] → d < k):∀ j i,Anc (fun i=>D.getD i []) j i → i < j:=by
 intro j i ha
 induction ha with
 | one hd=>exact h _ _ hd
 | step hd _ ih=>exact Nat.lt_trans ih (h _ _ hd)
section
variable [GlQ]
theorem trace_exL {q:Nat → Nat → Option AV} {xc:XCaller} {c:Caller} (hc:XOK q xc c):∀ {l:List AIns} {x:XFr} {tr:List XFr},xtrace xc l x=some tr → ∃ y,tr[l.length]?=some y ∧ exL c l (toFr q x)=some (toFr q y)
 | [],x,tr,h=>by cases h;exact ⟨x,rfl,rfl⟩
 | i :: l,x,tr,h=>by
   simp only [xtrace] at h
   split at h
   ·rename_i x' h1
    split at h
    ·rename_i t h2
     cases h
     obtain ⟨y,g1,g2⟩:=trace_exL hc h2
     exact ⟨y,by simpa using g1,by simp only [exL,xins_ok hc h1,Obs,g2]⟩
    cases h
   cases h
theorem trace_ok {q:Nat → Nat → Option AV} {xc:XCaller} {c:Caller} (hc:XOK q xc c) {l:List AIns} {D:List (List Nat)} {x:XFr} {tr:List XFr} (ht:xtrace xc l x=some tr) (hs:statOk l D (masks D [])=true) (hl:lookOk xc l (masks D []) tr=true) :
 ∃ y,tr[l.length]?=some y ∧ exL c l (toFr q x)=some (toFr q y) ∧ anyOrder c l D (toFr q x) (toFr q y):=by
 obtain ⟨g1,g2,g3⟩:=xtrace_ok ht
 have hget:∀ k,k ≤ l.length → tr[k]?=some (tr.getD k x):=fun k hk=>by
  rw [List.getD_eq_getElem?_getD,List.getElem?_eq_getElem (by omega)];rfl
 simp only [statOk,Bae,List.all_eq_true,List.mem_range,Dte,beq_iff_eq] at hs
 obtain ⟨⟨⟨s1,s2⟩,s3⟩,s4⟩:=hs
 have hD:∀ k d,d ∈ D.getD k [] → d < k:=fun k d hd=>by
  rcases Nat.lt_or_ge k l.length with h | h
  ·exact s1 k h d hd
  rw [List.getD_eq_getElem?_getD,List.getElem?_eq_none (by omega)] at hd
  simp at hd
 have hpair:∀ i j,i < j → j < l.length → ¬ Anc (fun i=>D.getD i []) j i → slotFree (l.getD i dum) (l.getD j dum)=true ∧ ¬ (wB (l.getD i dum)=true ∧ wB (l.getD j dum)=true):=fun i j hij hj hn=>by
  have:=s4 j hj i hij
  simp only [Bool.or_eq_true,Bae,Bool.not_eq_true'] at this
  rcases this with h | ⟨h1,h2⟩
  ·exact absurd (bit_anc j i h) hn
  refine ⟨h1,fun ⟨a,b⟩=>?_⟩
  rw [a,b] at h2
  simp at h2
 have T:Tr c l.length (fun k=>l.getD k dum) (Anc fun i=>D.getD i []) (fun k=>wB (l.getD k dum)=true) (fun k=>toFr q (tr.getD k x)):=by
  refine ⟨fun k hk=>?_,anc_lt hD,fun k hk=>?_,fun k hk hw=>?_,fun i j hi hj hne h1 h2 d hd=>?_,fun i j hij hj wi wj=>?_,fun i hi hw t ht' p1 p2=>?_⟩
  ·obtain ⟨y,z,a,b,e⟩:=g3 k hk
   rw [hget k (by omega)] at a
   rw [hget (k + 1) hk] at b
   cases a;cases b
   exact xins_ok hc e
  ·simpa using s3 k hk
  ·simpa [wB] using hw
  ·rcases Nat.lt_or_gt_of_ne hne with h | h
   ·exact (free_d (hpair i j h hj h1).1).1 d hd
   exact (free_d (hpair j i h hi h2).1).2 d hd
  ·refine Classical.byContradiction fun hn=>(hpair i j hij hj hn).2 ⟨wi,wj⟩
  have run:∀ k,k < l.length → ins c (l.getD k dum) (toFr q (tr.getD k x))=some (toFr q (tr.getD (k + 1) x)):=fun k hk=>by
   obtain ⟨y,z,a,b,e⟩:=g3 k hk
   rw [hget k (by omega)] at a
   rw [hget (k + 1) hk] at b
   cases a;cases b
   exact xins_ok hc e
  have hbar:∀ k,k < l.length → (l.getD k dum).op.bar=false:=fun k hk=>by simpa using s3 k hk
  have st1:∀ k,k < l.length → ¬ wB (l.getD k dum)=true → SameS (toFr q (tr.getD (k + 1) x)) (toFr q (tr.getD k x)):=fun k hk hw=>by
   have hself:=ins_self (hbar k hk) (run k hk)
   have hr:(l.getD k dum).op.wl=false ∧ (l.getD k dum).op.wg=false:=by simpa [wB] using hw
   refine ⟨?_,?_,?_,?_,?_⟩ <;> (rw [hself];simp only [mixI,mix,hr.1,hr.2];rfl)
  have last:∀ t,t ≤ l.length → ∃ b,b ≤ t ∧ (b=0 ∨ wB (l.getD (b - 1) dum)=true) ∧ (∀ k,b ≤ k → k < t → ¬ wB (l.getD k dum)=true) ∧ SameS (toFr q (tr.getD t x)) (toFr q (tr.getD b x)):=by
   intro t
   induction t with
   | zero=>exact fun _=>⟨0,Nat.le_refl _,.inl rfl,fun k h1 h2=>by omega,SameS.refl _⟩
   | succ t ih =>
     intro h
     by_cases hwt:wB (l.getD t dum)=true
     ·exact ⟨t + 1,Nat.le_refl _,.inr (by simpa using hwt),fun k h1 h2=>by omega,SameS.refl _⟩
     obtain ⟨b,b1,b2,b3,b4⟩:=ih (by omega)
     refine ⟨b,by omega,b2,fun k h1 h2=>?_,(st1 t (by omega) hwt).trans b4⟩
     by_cases e:k=t
     ·rw [e];exact hwt
     exact b3 k h1 (by omega)
  obtain ⟨b,b1,b2,b3,b4⟩:=last t ht'
  have eo:over (toFr q (tr.getD i x)) (toFr q (tr.getD t x))=over (toFr q (tr.getD i x)) (toFr q (tr.getD b x)):=Fr.ext' rfl b4.loc ⟨b4.g.nt,b4.g.lv,b4.g.df,b4.g.sg⟩
  show ∃ g,ins c (l.getD i dum) (over (toFr q (tr.getD i x)) (toFr q (tr.getD t x)))=some g ∧ _
  rw [eo]
  by_cases hrd:((l.getD i dum).op.rl || (l.getD i dum).op.rg)=true
  ·have h0:=List.all_eq_true.1 hl i (List.mem_range.2 hi)
   have hwf:wB (l.getD i dum)=false:=Bool.eq_false_iff.2 hw
   rw [hwf,hrd] at h0
   simp only [Bool.not_true,Bool.or_self,Bool.false_or] at h0
   have h1:=List.all_eq_true.1 h0 b (List.mem_range.2 (by omega))
   have hb:(Nat.beq b 0 || wB (l.getD (b - 1) dum))=true:=by
    rcases b2 with rfl | h
    ·rfl
    rw [h];simp
   have ha:admB l (masks D []) i b=true:=by
    refine List.all_eq_true.2 fun k hk=>?_
    have hk':=List.mem_range.1 hk
    by_cases hwk:wB (l.getD k dum)=true
    ·have q1:bitB (masks D []) i k=true → k < b:=fun h=>by
      have:=p1 k hk' hwk (bit_anc i k h)
      rcases Nat.lt_or_ge k b with h' | h'
      ·exact h'
      exact absurd hwk (b3 k h' this)
     have q2:bitB (masks D []) k i=true → b ≤ k:=fun h=>Nat.le_trans b1 (p2 k hk' hwk (bit_anc k i h))
     have d1:(!(bitB (masks D []) i k) || decide (k < b))=true:=by
      cases e:bitB (masks D []) i k with
      | false=>rfl
      | true=>rw [decide_eq_true (q1 e)];rfl
     have d2:(!(bitB (masks D []) k i) || decide (b ≤ k))=true:=by
      cases e:bitB (masks D []) k i with
      | false=>rfl
      | true=>rw [decide_eq_true (q2 e)];rfl
     rw [hwk,d1,d2]
     rfl
    rw [Bool.eq_false_iff.2 hwk];rfl
   rw [hb,ha,hget i (by omega),hget b (by omega),hget (i + 1) hi] at h1
   simp only [Bool.and_self,Bool.not_true,Bool.false_or] at h1
   split at h1
   ·rename_i g hg
    refine ⟨toFr q g,by rw [← xover_eq];exact xins_ok hc hg,fun d hd=>?_⟩
    have hd':(l.getD i dum).d=some d:=hd
    rw [hd'] at h1
    exact beqT_eq h1
   cases h1
  have hrf:(l.getD i dum).op.rl=false ∧ (l.getD i dum).op.rg=false:=by simpa using hrd
  have hag:AgI (l.getD i dum) (over (toFr q (tr.getD i x)) (toFr q (tr.getD b x))) (toFr q (tr.getD i x)):=⟨fun _ _=>rfl,fun h=>absurd (hrf.1.symm.trans h) (by simp),fun h=>absurd (hrf.2.symm.trans h) (by simp)⟩
  refine ⟨_,by rw [ins_ag (hbar i hi) hag,run i hi];rfl,fun d hd=>?_⟩
  have hd':(l.getD i dum).d=some d:=hd
  simp only [mixI,hd',putE,upd,if_true]
 refine ⟨tr.getD l.length x,hget _ (Nat.le_refl _),?_,?_⟩
 ·obtain ⟨y,e1,e2⟩:=trace_exL hc ht
  rw [hget _ (Nat.le_refl _)] at e1
  cases e1
  exact e2
 have:=T.any
 have e0:tr.getD 0 x=x:=by rw [List.getD_eq_getElem?_getD,g2];rfl
 rw [e0] at this
 exact this
def xloop (body:XFr → Option (Ex × XFr)):Nat → XFr → Option (Ex × XFr)
 | 0,_=>none
 | .succ n,x=>match body x with
   | some (.norm,x')=>xloop body n x'
   | some (e,x')=>some (e,x')
   | none=>none
end
section
variable [GlQ]
end
section
variable [GlQ]
end
section
variable [GlQ]
end
section
variable [GlQ]
end
section
variable [GlQ]
end
section
variable [GlQ]
end
section
variable [GlQ]
noncomputable def xexec (call:XCaller) (lp:Nat):AC → XFr → Option (Ex × XFr)
 | .skip,x=>some (.norm,x)
 | .ret,x=>some (.ret,x)
 | .retz _ _,x=>none
 | .exit id,x=>some (.exit id,x)
 | .seq a b,x=>match xexec call lp a x with
   | some (.norm,x')=>xexec call lp b x'
   | some (e,x')=>some (e,x')
   | none=>none
 | .cond c t e,x=>match evV (toE x.env) c with
   | some (.lit (.bool true))=>xexec call lp t x
   | some (.lit (.bool false))=>xexec call lp e x
   | _=>none
 | .block id b,x=>match xexec call lp b x with
   | some (.exit id',x')=>(match Nat.beq id' id with
     | true=>some (.norm,x')
     | false=>some (.exit id',x'))
   | some (e,x')=>some (e,x')
   | none=>none
 | .loop b,x=>xloop (xexec call lp b) lp x
 | .regd l fs k kl D,x=>xfresh fs x fun x=>match xtrace call l x with
   | some tr=>(match statOk l D (masks D []) with
     | true=>(match lookOk call l (masks D []) tr with
       | true=>(match tr[l.length]? with
         | some ⟨env,loc,nt,lv,df,sg⟩=>xkeep k env fun env=>xkeep kl loc fun loc=>some (.norm,⟨env,loc,nt,lv,df,sg⟩)
         | none=>none)
       | false=>none)
     | false=>none)
   | none=>none
 | .reg l fs k kl,x=>xfresh fs x fun x=>match xexL call l x with
   | some ⟨env,loc,nt,lv,df,sg⟩=>xkeep k env fun env=>xkeep kl loc fun loc=>some (.norm,⟨env,loc,nt,lv,df,sg⟩)
   | none=>none
end
theorem xloop_ok {q:Nat → Nat → Option AV} {xb:XFr → Option (Ex × XFr)} {b:Fr → Option (Ex × Fr)} (hb:∀ x r,xb x=some r → b (toFr q x)=some (r.1,toFr q r.2)):∀ {n:Nat} {x:XFr} {r:Ex × XFr},xloop xb n x=some r → loopN b n (toFr q x)=some (r.1,toFr q r.2)
 | 0,x,r,h=>by cases h
 | n + 1,x,r,h=>by
   simp only [xloop] at h
   simp only [loopN]
   split at h
   ·rename_i x' h1
    simp only [hb _ _ h1,Obs]
    exact xloop_ok hb h
   ·rename_i e x' hne h1
    cases h
    simp only [hb _ _ h1,Obs]
   cases h
section
variable [GlQ]
theorem xexec_ok {q:Nat → Nat → Option AV} {xc:XCaller} {c:Caller} (hc:XOK q xc c) {lp:Nat}:∀ {ac:AC} {x:XFr} {r:Ex × XFr},xexec xc lp ac x=some r → aexec c lp ac (toFr q x)=some (r.1,toFr q r.2)
 | .skip,x,r,h=>by cases h;rfl
 | .ret,x,r,h=>by cases h;rfl
 | .retz _ _,x,r,h=>by cases h
 | .exit _,x,r,h=>by cases h;rfl
 | .seq a b,x,r,h=>by
   simp only [xexec] at h
   simp only [aexec]
   split at h
   ·rename_i x' h1
    simp only [xexec_ok hc h1,Obs]
    exact xexec_ok hc h
   ·rename_i e x' hne h1
    cases h
    simp only [xexec_ok hc h1,Obs]
   cases h
 | .cond o a b,x,r,h=>by
   simp only [xexec] at h
   simp only [aexec]
   split at h
   ·rename_i h1
    rw [show evV (toFr q x).env o=_ from h1]
    exact xexec_ok hc h
   ·rename_i h1
    rw [show evV (toFr q x).env o=_ from h1]
    exact xexec_ok hc h
   cases h
 | .block id b,x,r,h=>by
   simp only [xexec] at h
   simp only [aexec]
   split at h
   ·rename_i id' x' h1
    simp only [xexec_ok hc h1,Obs]
    by_cases hid:id'=id
    ·subst hid
     rw [beq_self] at h
     cases h
     rw [if_pos rfl]
    rw [beq_ne hid] at h
    cases h
    rw [if_neg hid]
   ·rename_i e x' hne h1
    cases h
    simp only [xexec_ok hc h1,Obs]
   cases h
 | .loop b,x,r,h=>by
   simp only [xexec] at h
   simp only [aexec]
   exact xloop_ok (fun x r h=>xexec_ok hc h) h
 | .regd l fs k kl D,x,r,h=>by
   simp only [xexec] at h
   simp only [aexec]
   obtain ⟨y,h,h1⟩:=xfresh_ok (q:=q) h
   rw [← h1]
   split at h
   ·rename_i tr ht
    split at h
    ·rename_i hs
     split at h
     ·rename_i hl
      obtain ⟨z,e1,e2,e3⟩:=trace_ok hc ht hs hl
      rw [e1] at h
      obtain ⟨env,loc,nt,lv,df,sg⟩:=z
      simp only [xkeep_eq] at h
      cases h
      rw [e2]
      simp only [Obs]
      rw [if_pos e3]
      simp only [Fr.keep,toFr,toE_xkp]
     cases h
    cases h
   cases h
 | .reg l fs k kl,x,r,h=>by
   simp only [xexec] at h
   simp only [aexec]
   obtain ⟨y,h,h1⟩:=xfresh_ok (q:=q) h
   rw [← h1]
   split at h
   ·rename_i env loc nt lv df sg h2
    simp only [xkeep_eq] at h
    cases h
    rw [xexL_ok hc h2]
    simp only [Obs,Fr.keep,toFr,toE_xkp]
   cases h
def xrunD (call:XCaller):List (Nat × List AV) → XS → Option XS
 | [],s=>some s
 | (f,as) :: r,s=>match call f as s with
  | some (_,s')=>xrunD call r s'
  | none=>none
theorem xrunD_ok {q:Nat → Nat → Option AV} {xc:XCaller} {c:Caller} (hc:XOK q xc c):∀ {l:List (Nat × List AV)} {s s':XS},xrunD xc l s=some s' → runD c l (toSg q s)=some (toSg q s')
 | [],s,s',h=>by cases h;rfl
 | (f,as) :: l,s,s',h=>by
  simp only [xrunD] at h
  split at h
  ·rename_i u s1 h1
   simp only [runD,hc.2 _ _ _ _ h1,Obs]
   exact xrunD_ok hc h
  cases h
def xstart:Nat → List AV → List (Nat × Option TV)
 | _,[]=>[]
 | i,a :: as=>(i,some (.val a)) :: xstart (Nat.succ i) as
end
theorem xstart_eq:∀ (l:List AV) (k i:Nat),toE (xstart k l) i=if k ≤ i then (l[i - k]?).map TV.val else none
 | [],k,i=>by simp [xstart,toE]
 | a :: as,k,i=>by
   simp only [xstart,toE_cons,upd]
   by_cases h:i=k
   ·subst h;simp
   rw [if_neg h,xstart_eq as (Nat.succ k) i]
   by_cases hk:k ≤ i
   ·rw [if_pos hk,if_pos (by omega)]
    have:i - k=(i - (k + 1)) + 1:=by omega
    rw [this,List.getElem?_cons_succ]
   rw [if_neg hk,if_neg (by omega)]
theorem start_x {q:Nat → Nat → Option AV} (l:List AV) (s:XS):toFr q ⟨xstart 0 l,[],0,[],[],s⟩=Fr.start l (toSg q s):=by
 unfold Fr.start toFr
 congr 1
 funext i
 rw [xstart_eq]
 simp
section
variable [GlQ]
noncomputable def xres (x:XFr) (rs:List ARes):Option (List AV):=evRs (toFr (fun _ _=>none) x) rs
end
theorem xres_ok {q:Nat → Nat → Option AV} {x:XFr}:∀ {rs:List ARes},evRs (toFr q x) rs=evRs (toFr (fun _ _=>none) x) rs
 | []=>rfl
 | r :: rs=>by
   have e:evR (toFr q x) r=evR (toFr (fun _ _=>none) x) r:=by
    cases r with
    | t n=>rfl
    | cell n c =>
      refine bindc (o:=toE x.env c) fun p=>?_
      cases p with
      | val v=>cases v <;> rfl
      | _=>rfl
   simp only [evRs,e,xres_ok (rs:=rs)]
section
variable [GlQ]
noncomputable def xfnD (call:XCaller) (lp:Nat) (fn:AFun) (args:List AV) (s:XS):Option (List AV × XS) :=
 match Nat.beq args.length fn.np with
 | true=>(match xexec call lp fn.body ⟨xstart 0 args,[],0,[],[],s⟩ with
   | some (.exit _,_)=>none
   | some (_,x)=>(match x.df with
     | []=>(match xres x fn.res with
       | some l=>fEs (AV.ers l) fun l=>some (l,x.sg)
       | none=>none)
     | _=>none)
   | none=>none)
 | false=>none
noncomputable def xfn (call callD:XCaller) (lp:Nat) (fn:AFun) (args:List AV) (s:XS):Option (List AV × XS) :=
 match Nat.beq args.length fn.np with
 | true=>(match xexec call lp fn.body ⟨xstart 0 args,[],0,[],[],s⟩ with
   | some (.exit _,_)=>none
   | some (_,⟨env,loc,nt,lv,df,sg⟩)=>(match xrunD callD df sg with
     | some s'=>(match xres ⟨env,loc,nt,lv,df,s'⟩ fn.res with
       | some l=>fEs (AV.ers l) fun l=>some (l,s')
       | none=>none)
     | none=>none)
   | none=>none)
 | false=>none
theorem xfnD_ok {q:Nat → Nat → Option AV} {xc:XCaller} {c:Caller} (hc:XOK q xc c) {lp:Nat} {fn:AFun} {args:List AV} {s:XS} {r:List AV × XS} (h:xfnD xc lp fn args s=some r):runFnD c lp fn args (toSg q s)=some (r.1,toSg q r.2):=by
 unfold xfnD at h
 unfold runFnD
 split at h
 ·rename_i hl
  rw [if_pos (by simpa using hl),← start_x]
  split at h
  ·cases h
  ·rename_i e x hne h1
   rw [xexec_ok hc h1]
   split at h
   ·rename_i hdf
    split at h
    ·rename_i l h2
     simp only [fAs_eq,fSp_eq,fEs_eq,Oie] at h
     subst h
     simp only [Obs]
     rw [show (toFr q x).df=[] from hdf]
     cases e with
     | exit i=>exact absurd rfl (hne i)
     | _ =>
       simp only [xres_ok (q:=q),show evRs (toFr (fun _ _=>none) x) fn.res=some l from h2,Obs]
       rfl
    cases h
   cases h
  cases h
 cases h
theorem xfn_ok {q:Nat → Nat → Option AV} {xc xd:XCaller} {c cd:Caller} (hc:XOK q xc c) (hd:XOK q xd cd) {lp:Nat} {fn:AFun} {args:List AV} {s:XS} {r:List AV × XS} (h:xfn xc xd lp fn args s=some r):runFn c cd lp fn args (toSg q s)=some (r.1,toSg q r.2):=by
 unfold xfn at h
 unfold runFn
 split at h
 ·rename_i hl
  rw [if_pos (by simpa using hl),← start_x]
  split at h
  ·cases h
  ·rename_i e env loc nt lv df sg hne h1
   rw [xexec_ok hc h1]
   split at h
   ·rename_i s' h3
    split at h
    ·rename_i l h2
     simp only [fAs_eq,fSp_eq,fEs_eq,Oie] at h
     subst h
     simp only [Obs]
     have h4:runD cd (toFr q ⟨env,loc,nt,lv,df,sg⟩).df (toFr q ⟨env,loc,nt,lv,df,sg⟩).sg=some (toSg q s'):=xrunD_ok hd h3
     have h5:evRs { toFr q ⟨env,loc,nt,lv,df,sg⟩ with sg:=toSg q s' } fn.res=some l:=by
      have:=xres_ok (q:=q) (x:=⟨env,loc,nt,lv,df,s'⟩) (rs:=fn.res)
      rw [show evRs (toFr (fun _ _=>none) ⟨env,loc,nt,lv,df,s'⟩) fn.res=some l from h2] at this
      exact this
     cases e with
     | exit i=>exact absurd rfl (hne i)
     | _=>simp only [h4,Obs,h5]
    cases h
   cases h
  cases h
 cases h
structure XPg where
 fn:Nat → Option AFun
 ov:Nat → Option (List AV → XS → Option (List AV × XS))
noncomputable def xcallN (p:XPg):Nat → XCaller
 | 0,_,_,_=>none
 | .succ n,f,args,s=>match p.ov f with
   | some g=>g args s
   | none=>match p.fn f with
     | some fn=>xfn (xcallN p n) (fun f args s=>match p.fn f with
       | some fn=>xfnD (xcallN p n) n fn args s
       | none=>none) n fn args s
     | none=>none
structure XPOK (q:Nat → Nat → Option AV) (xp:XPg) (p:Pg):Prop where
 fn:∀ f,xp.fn f=p.fn f
 ovn:∀ f,xp.ov f=none → p.ov f=none
 ov:∀ f g,xp.ov f=some g → ∃ g',p.ov f=some g' ∧ ∀ a s r,g a s=some r → g' a (toSg q s)=some (r.1,toSg q r.2)
 kq:GlQ.OK q
theorem xcallN_ok {q:Nat → Nat → Option AV} {xp:XPg} {p:Pg} (hp:XPOK q xp p):∀ n,XOK q (xcallN xp n) (callN p n)
 | 0=>⟨hp.kq,fun f a s r h=>by cases h⟩
 | n + 1=>⟨hp.kq,fun f a s r h=>by
   simp only [xcallN] at h
   simp only [callN]
   split at h
   ·rename_i g hg
    obtain ⟨g',h1,h2⟩:=hp.ov f g hg
    rw [h1]
    exact h2 _ _ _ h
   rename_i hg
   rw [hp.ovn f hg]
   split at h
   ·rename_i fn hf
    rw [← hp.fn f,hf]
    refine xfn_ok (xcallN_ok hp n) ⟨hp.kq,?_⟩ h
    intro f a s r h
    try simp only at h ⊢
    split at h
    ·rename_i fn hf
     rw [← hp.fn f,hf]
     exact xfnD_ok (xcallN_ok hp n) h
    cases h
   cases h⟩
def XS.e:XS:=⟨[],0,[],0,[],0⟩
end
end Go.Sim
namespace Go.Sim
open Go
mutual
def pureA:AV → Bool
 | .lit _=>true
 | .agg cs=>pureAs cs
 | .slice .none _ xs=>pureAs xs
 | .slice .full _ xs=>pureAs xs
 | .iface _ v=>pureA v
 | _=>false
def pureAs:List AV → Bool
 | []=>true
 | a :: as=>pureA a && pureAs as
end
theorem pureAs_mem:∀ {l:List AV},pureAs l=true → ∀ c ∈ l,pureA c=true
 | [],_,c,hc=>by cases hc
 | a :: as,h,c,hc=>by
   simp only [pureAs,Bae] at h
   rcases List.mem_cons.1 hc with rfl | hc
   ·exact h.1
   exact pureAs_mem h.2 c hc
theorem pure_cells {x:AV} (h:pureA x=true):∀ c ∈ x.cells,pureA c=true:=by
 intro c hc
 cases x with
 | agg cs=>simp only [pureA] at h;exact pureAs_mem h c hc
 | _=>simp only [AV.cells,List.mem_singleton] at hc;rw [hc];exact h
theorem pure_flat {xs:List AV} (h:pureAs xs=true):∀ c ∈ flat xs,pureA c=true:=by
 intro c hc
 obtain ⟨x,hx,hc⟩:=List.mem_flatMap.1 hc
 exact pure_cells (pureAs_mem h x hx) c hc
mutual
theorem VR_pure {G G':Gh} (hK:∀ b o c,pureA c=true → G.K b o c → G'.K b o c):∀ (a:AV) (v:Value),pureA a=true → VR G a v → VR G' a v
 | .lit x,v,_,h=>by simpa only [VR] using h
 | .agg cs,v,hp,h=>by
   simp only [VR] at h ⊢
   obtain ⟨vs,rfl,h1,h2⟩:=h
   exact ⟨vs,rfl,VRs_pure hK cs vs (by simpa only [pureA] using hp) h1,h2⟩
 | .slice .none sz xs,v,hp,h=>by
   simp only [VR] at h ⊢
   obtain ⟨a,cap,rfl,h1,h2,h3,h4⟩:=h
   refine ⟨a,cap,J,h1,h2,?_,trivial⟩
   cases a with
   | none=>exact h3
   | some ad=>exact ⟨h3.1,fun j c hc=>hK _ _ _ (pure_flat (by simpa only [pureA] using hp) c (Lmg hc)) (h3.2 j c hc)⟩
 | .slice .full sz xs,v,hp,h=>by
   simp only [VR] at h ⊢
   obtain ⟨a,cap,rfl,h1,h2,h3,h4⟩:=h
   refine ⟨a,cap,J,h1,h2,?_,h4⟩
   cases a with
   | none=>exact h3
   | some ad=>exact ⟨h3.1,fun j c hc=>hK _ _ _ (pure_flat (by simpa only [pureA] using hp) c (Lmg hc)) (h3.2 j c hc)⟩
 | .slice (.tip t) sz xs,v,hp,_=>by simp [pureA] at hp
 | .slice (.gt t) sz xs,v,hp,_=>by simp [pureA] at hp
 | .iface t x,v,hp,h=>by
   simp only [VR] at h ⊢
   obtain ⟨y,rfl,hy⟩:=h
   exact ⟨y,rfl,VR_pure hK x y (by simpa only [pureA] using hp) hy⟩
 | .ptr _ _,v,hp,_=>by simp [pureA] at hp
 | .cptr _ _,v,hp,_=>by simp [pureA] at hp
 | .map _,v,hp,_=>by simp [pureA] at hp
 | .fn _ _ _,v,hp,_=>by simp [pureA] at hp
 | .ms _ _ _ _,v,hp,_=>by simp [pureA] at hp
 | .mp _ _,v,hp,_=>by simp [pureA] at hp
theorem VRs_pure {G G':Gh} (hK:∀ b o c,pureA c=true → G.K b o c → G'.K b o c):∀ (l:List AV) (vs:List Value),pureAs l=true → VRs G l vs → VRs G' l vs
 | [],vs,_,h=>by simpa only [VRs] using h
 | a :: as,vs,hp,h=>by
   simp only [pureAs,Bae] at hp
   simp only [VRs] at h ⊢
   obtain ⟨v,r,rfl,h1,h2⟩:=h
   exact ⟨v,r,rfl,VR_pure hK a v hp.1 h1,VRs_pure hK as r hp.2 h2⟩
end
def Gh.bare (G:Gh):Gh:={ K:=fun b o c=>G.K b o c ∧ pureA c=true,ow:=fun _=>.free,T:=fun _=>none,U:=fun _=>none,M:=fun _=>none,H:=fun _=>false }
def sgQ (q:Nat → Nat → Option AV):Sg:=⟨fun _=>none,0,fun _=>false,0,q,fun _=>none,0⟩
theorem WI.bare {G:Gh} {s:Sg} {w:World} (h:WI G s w) {q:Nat → Nat → Option AV} (hq:∀ b o c,q b o=some c → s.Q b o=some c ∧ pureA c=true):WI G.bare (sgQ q) w:=by
 refine ⟨?_,fun b o c h=>trivial,fun id o h=>(by cases h),fun id b b' h=>(by cases h),fun id b h=>(by cases h),fun g h=>(by cases h),fun g x h=>(by cases h),fun b h=>absurd J h,fun b o c hc=>?_,fun g cs h=>(by cases h),fun g x h=>(by cases h),fun b (h:false=true)=>Bool.noConfusion h⟩
 ·rintro b o c ⟨hc,hp⟩
  obtain ⟨⟨v,h1,h2⟩,h3,h4⟩:=h.claim b o c hc
  exact ⟨⟨v,h1,VR_pure (G':=G.bare) (fun b o c hp hk=>⟨hk,hp⟩) c v hp h2⟩,h3,h4⟩
 obtain ⟨h1,h2⟩:=hq b o c hc
 exact ⟨h.glb b o c h1,h2⟩
theorem bare_Base (G:Gh):Base G.bare:=⟨fun _=>rfl,fun b i h=>(by cases h),fun b t e h=>(by cases h)⟩
theorem pureOv_ok {P:Program} {p:Pg} (hP:PgOK P p) {f:Nat} {A R:List AV} (hA:pureAs A=true) (hR:pureAs R=true) {cnd:Sg → Bool}
 (hrun:∀ s,cnd s=true → ∃ q s',(∀ b o c,q b o=some c → s.Q b o=some c ∧ pureA c=true) ∧ callL p f A (sgQ q)=some (R,s')) :
 OvOK P f (fun args s=>if beqL (beqA dp) args A=true ∧ cnd s=true then some (R,s) else none):=by
 intro args s res s' he G w vs hw hB hv hn
 simp only at he
 split at he
 ·rename_i hc
  cases he
  have e:=beqL_eq (beqA_eq dp) hc.1
  subst e
  obtain ⟨q,s1,hq,h1⟩:=hrun s hc.2
  obtain ⟨n,h1⟩:=callL_iff.1 h1
  obtain ⟨hen,hcalls⟩:=(callN_ok hP n).1 f _ _ _ _ h1 G.bare w vs (hw.bare hq) (bare_Base G) (VRs_pure (G':=G.bare) (fun b o c hp hk=>⟨hk,hp⟩) _ vs hA hv) hn
  refine ⟨hen,hcalls.mono ?_⟩
  rintro e w' ⟨l,G',rfl,h2,h3,h4,h5,h6⟩
  have hheap:∀ b,b < w.heap.size → w'.heap[b]?=w.heap[b]?:=fun b hb=>(h6.free b hb rfl).1
  have hold:∀ b o c,b < w.heap.size → G'.K b o c → G.K b o c:=fun b o c hb hk=>by
   have:=(h6.free b hb rfl).2.2 o
   rw [this] at hk
   exact hk.1
  let G2:Gh:={ G with K:=fun b o c=>G.K b o c ∨ (G'.K b o c ∧ pureA c=true) }
  have le:Gle G G2:=⟨fun b o c h=>.inl h,fun _ _ h=>h,fun _ _ h=>h,fun _ _ h=>h⟩
  have hlt:∀ b,G.ow b ≠ .free → b < w.heap.size:=hw.owlt
  have hRt:∀ {x:Option (Addr × Nat × Nat × Nat)} {mk:Nat → Ow},(∀ e,mk e ≠ .free) → Right G w x mk → Right G2 w' x mk:=fun hm r=>r.mono (fun _ e=>e) fun b e hb=>⟨hb,hheap b (hlt b (by rw [hb];exact hm e))⟩
  refine ⟨l,G2,rfl,?_,⟨hB.T,hB.loc,hB.tip⟩,VRs_pure (G':=G2) (fun b o c hp hk=>.inr ⟨hk,hp⟩) R l hR h4,h5,?_⟩
  ·refine hw.upd le (fun b o c hk=>cell_of_heap (hheap b (hw.kfree hk))) ?_ ?_ ?_ hw.obu hw.obn (fun g hg=>hRt (fun e=>by simp) (hw.gts g hg)) hw.gn (fun b hb=>Nat.lt_of_lt_of_le (hlt b hb) h6.size) (fun b g hb=>⟨hb,hheap b (hlt b (by rw [hb];simp))⟩)
   ·rintro b o c (hk | ⟨hk,hp⟩)
    ·exact .inl hk
    obtain ⟨⟨v,e1,e2⟩,e3,e4⟩:=h2.claim b o c hk
    exact .inr ⟨⟨v,e1,VR_pure (G':=G2) (fun b o c hp hk=>.inr ⟨hk,hp⟩) c v hp e2⟩,e3,e4⟩
   ·rintro b o c (hk | ⟨hk,hp⟩)
    ·exact hw.kow b o c hk
    by_cases hb:b < w.heap.size
    ·exact hw.kow b o c (hold b o c hb hk)
    show kok o (G.ow b)
    rw [(hw.nofree (Nat.le_of_not_lt hb)).1]
    trivial
   intro id o ho
   obtain ⟨b,e1,e2⟩:=hw.obj id o ho
   exact ⟨b,e1,OR_mono le (hheap b (hlt b (by rw [e1];simp))) e2⟩
  refine ⟨h6.os,h6.tape,h6.output,h6.size,fun b hb hf=>⟨hheap b hb,hf,fun o=>?_⟩,le,fun b hb hf=>⟨hheap b hb,hf⟩⟩
  funext c
  refine propext ⟨?_,fun h=>.inl h⟩
  rintro (hk | ⟨hk,hp⟩)
  ·exact hk
  exact hold b o c hb hk
 cases he
def isRes (R:List AV) (o:Option (List AV × XS)):Bool:=match o with
 | some (l,_)=>beqL (beqA dp) l R
 | none=>false
theorem xrun_res [GlQ] {q:Nat → Nat → Option AV} {xp:XPg} {p:Pg} (hp:XPOK q xp p) {n f:Nat} {args R:List AV} (h:isRes R (xcallN xp n f args XS.e)=true):∃ s',callL p f args (sgQ q)=some (R,s'):=by
 unfold isRes at h
 split at h
 ·rename_i l s1 h1
  have e:=beqL_eq (beqA_eq dp) h
  subst e
  exact ⟨_,callL_iff.2 ⟨n,(xcallN_ok hp n).2 _ _ _ _ h1⟩⟩
 cases h
end Go.Sim
