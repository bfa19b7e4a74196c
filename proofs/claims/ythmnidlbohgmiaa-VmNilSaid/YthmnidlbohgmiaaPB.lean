/-
  A part of a proof: see the last text of this claim.
-/
import Derived.Test.YthmnidlbohgmiaaPA
import Derived.Scope
import Derived.Eval
import Derived.IntWalk
set_option linter.unusedVariables false
set_option linter.unusedSimpArgs false
namespace Go.Sim
open Go
def AO.rs:AO → List Nat
 | .t n=>[n]
 | _=>[]
def rsO:Option AO → List Nat
 | some x=>x.rs
 | none=>[]
def rsL (l:List AO):List Nat:=l.flatMap AO.rs
def rsP (l:List (Nat × Nat × AO)):List Nat:=l.flatMap fun x=>x.2.2.rs
def AOp.rs:AOp → List Nat
 | .mv x=>x.rs
 | .pick c a b=>c.rs ++ a.rs ++ b.rs
 | .alloc _ _=>[]
 | .box _ x=>x.rs
 | .build _ ps=>rsP ps
 | .bsl _ ps=>rsL ps
 | .ld _ _ a=>a.rs
 | .st _ _ a x=>a.rs ++ x.rs
 | .nck x=>x.rs
 | .bin _ x y=>x.rs ++ y.rs
 | .beq _ x y=>x.rs ++ y.rs
 | .peq _ x y=>x.rs ++ y.rs
 | .mmx _ x y=>x.rs ++ y.rs
 | .aeq _ _ x y=>x.rs ++ y.rs
 | .unot x=>x.rs
 | .uneg x=>x.rs
 | .cvt _ x=>x.rs
 | .mkf _ fs cs=>rsL fs ++ rsL cs
 | .mkm _=>[]
 | .fa _ x=>x.rs
 | .fld _ _ x=>x.rs
 | .ia _ x i=>x.rs ++ i.rs
 | .iaa _ _ x i=>x.rs ++ i.rs
 | .ixs x i=>x.rs ++ i.rs
 | .lk _ _ _ m k=>m.rs ++ k.rs
 | .mu _ m k v=>m.rs ++ k.rs ++ v.rs
 | .dl _ m k=>m.rs ++ k.rs
 | .ext x _=>x.rs
 | .call f as=>f.rs ++ rsL as
 | .len _ x=>x.rs
 | .app _ _ s x=>s.rs ++ x.rs
 | .sl _ x lo hi mx=>x.rs ++ rsO lo ++ rsO hi ++ rsO mx
 | .sls x lo hi=>x.rs ++ rsO lo ++ rsO hi
 | .dfr f as=>f.rs ++ rsL as
 | .wop _ xs=>rsL xs
 | .ldo rt _ a=>rt :: a.rs
 | .callq ks f as=>ks ++ (f.rs ++ rsL as)
def AOp.bar:AOp → Bool
 | .alloc true _=>true
 | .box true _=>true
 | _=>false
def AOp.rl:AOp → Bool
 | .ld _ _ _=>true
 | .st _ _ _ _=>true
 | _=>false
def AOp.wl:AOp → Bool
 | .st _ _ _ _=>true
 | _=>false
def AOp.rg:AOp → Bool
 | .ld h _ _=>h
 | .st h _ _ _=>h
 | .alloc false _=>true
 | .box false _=>true
 | .mkm _=>true
 | .lk _ _ _ _ _=>true
 | .mu _ _ _ _=>true
 | .dl _ _ _=>true
 | .call _ _=>true
 | .app _ _ _ _=>true
 | .dfr _ _=>true
 | .wop _ _=>true
 | .ldo _ _ _=>true
 | .callq _ _ _=>true
 | _=>false
def AOp.wg:AOp → Bool
 | .st h _ _ _=>h
 | .alloc false _=>true
 | .box false _=>true
 | .mkm _=>true
 | .mu _ _ _ _=>true
 | .dl _ _ _=>true
 | .call _ _=>true
 | .app _ _ _ _=>true
 | .dfr _ _=>true
 | .wop _ _=>true
 | .callq _ _ _=>true
 | _=>false
structure SameG (f f':Fr):Prop where
 nt:f.nt=f'.nt
 lv:f.lv=f'.lv
 df:f.df=f'.df
 sg:f.sg=f'.sg
structure Ag (x:AOp) (f f':Fr):Prop where
 env:∀ s,s ∈ x.rs → f.env s=f'.env s
 loc:x.rl=true → f.loc=f'.loc
 g:x.rg=true → SameG f f'
def mix (wl wg:Bool) (f g:Fr):Fr :=
 { env:=f.env,loc:=if wl then g.loc else f.loc,nt:=if wg then g.nt else f.nt,lv:=if wg then g.lv else f.lv,df:=if wg then g.df else f.df,sg:=if wg then g.sg else f.sg }
theorem ev_ag {f f':Fr} {x:AO} (h:∀ s,s ∈ x.rs → f.env s=f'.env s):ev f.env x=ev f'.env x:=by
 cases x with
 | t n=>exact h n (by simp [AO.rs])
 | _=>rfl
theorem evV_ag {f f':Fr} {x:AO} (h:∀ s,s ∈ x.rs → f.env s=f'.env s):evV f.env x=evV f'.env x:=by unfold evV;rw [ev_ag h]
theorem evVs_ag {f f':Fr}:∀ {l:List AO},(∀ s,s ∈ rsL l → f.env s=f'.env s) → evVs f.env l=evVs f'.env l
 | [],_=>rfl
 | x :: l,h=>by
   simp only [evVs]
   rw [evV_ag (x:=x) (fun s hs=>h s (by simp only [rsL,List.flatMap_cons,List.mem_append];exact .inl hs)),evVs_ag (l:=l) (fun s hs=>h s (by simp only [rsL,List.flatMap_cons,List.mem_append];exact .inr hs))]
theorem evPs_ag {f f':Fr}:∀ {l:List (Nat × Nat × AO)},(∀ s,s ∈ rsP l → f.env s=f'.env s) → evPs f.env l=evPs f'.env l
 | [],_=>rfl
 | (a,b,x) :: l,h=>by
  simp only [evPs]
  rw [evV_ag (x:=x) (fun s hs=>h s (by simp only [rsP,List.flatMap_cons,List.mem_append];exact .inl hs)),evPs_ag (l:=l) (fun s hs=>h s (by simp only [rsP,List.flatMap_cons,List.mem_append];exact .inr hs))]
theorem bound_ag {f f':Fr} {x:Option AO} {n:Nat} (h:∀ s,s ∈ rsO x → f.env s=f'.env s):boundOf f.env x n=boundOf f'.env x n:=by
 cases x with
 | none=>rfl
 | some x=>simp only [boundOf];rw [evV_ag h]
theorem Fr.ext' {f g:Fr} (h1:f.env=g.env) (h2:f.loc=g.loc) (h3:SameG f g):f=g:=by
 cases f;cases g;cases h3;simp_all
theorem stv_ag {v:AV} {f f':Fr} (h:SameG f f'):(stv v f).1=(stv v f').1 ∧ SameG (stv v f).2 (stv v f').2 ∧ (stv v f).2.env=f.env ∧ (stv v f).2.loc=f.loc:=by
 obtain ⟨h1,h2,h3,h4⟩:=h
 have gen:∀ g:Fr,(v.erT,g).1=v.erT:=fun _=>rfl
 cases v with
 | slice o sz xs =>
   cases o with
   | tip t =>
     simp only [stv,h2,h4]
     split
     ·exact ⟨rfl,⟨h1,rfl,h3,rfl⟩,rfl,rfl⟩
     ·exact ⟨rfl,⟨h1,h2,h3,h4⟩,rfl,rfl⟩
   | _=>exact ⟨rfl,⟨h1,h2,h3,h4⟩,rfl,rfl⟩
 | _=>exact ⟨rfl,⟨h1,h2,h3,h4⟩,rfl,rfl⟩
theorem mayApp_ag {o:Own} {f f':Fr} (h:SameG f f'):mayApp o f=(mayApp o f').map (mix false true f):=by
 obtain ⟨h1,h2,h3,h4⟩:=h
 cases o with
 | none=>rfl
 | full=>simp only [mayApp,Option.map_some,Option.some.injEq];exact Fr.ext' rfl rfl ⟨h1,h2,h3,h4⟩
 | tip t =>
   simp only [mayApp,h2]
   split
   ·simp only [Option.map_some,Option.some.injEq];exact Fr.ext' rfl rfl ⟨h1,rfl,h3,h4⟩
   ·rfl
 | gt g =>
   simp only [mayApp,h4]
   split
   ·simp only [Option.map_some,Option.some.injEq];exact Fr.ext' rfl rfl ⟨h1,h2,h3,rfl⟩
   ·rfl
theorem appOf_ag {sz b:Nat} {o:Own} {xs ys:List AV} {f f':Fr} (h:SameG f f'):appOf sz b f o xs ys=(appOf sz b f' o xs ys).map fun r=>(r.1,mix false true f r.2):=by
 cases ys with
 | nil=>simp only [appOf,Option.map_some,Option.some.injEq,Prod.mk.injEq,true_and];exact Fr.ext' rfl rfl ⟨h.nt,h.lv,h.df,h.sg⟩
 | cons y ys =>
   simp only [appOf]
   split
   ·rw [mayApp_ag h]
    cases mayApp o f' with
    | none=>rfl
    | some g=>rfl
   ·rfl
theorem ldAt_ag {hf:Bool} {n:Option Nat} {p:TV} {f f':Fr} (hl:f.loc=f'.loc) (hg:hf=true → SameG f f'):ldAt f hf n p=ldAt f' hf n p:=by
 cases p with
 | loc i o=>simp only [ldAt,hl]
 | tup vs=>rfl
 | und=>rfl
 | val v =>
   cases v with
   | ptr i o =>
     simp only [ldAt]
     split
     ·rename_i h;rw [(hg h).sg]
     ·rfl
   | mp g o =>
     simp only [ldAt]
     split
     ·rename_i h;rw [(hg h).sg]
     ·rfl
   | _=>rfl
theorem stAt_ag {hf:Bool} {v:AV} {p:TV} {f f':Fr} (hl:f.loc=f'.loc) (hg:hf=true → SameG f f'):stAt f hf v p=(stAt f' hf v p).map (mix true hf f):=by
 have hm:∀ (g:Nat → Option (List AV)),{ f with loc:=g }=mix true hf f { f' with loc:=g }:=by
  intro g
  cases hf with
  | false=>rfl
  | true=>exact Fr.ext' rfl rfl ⟨(hg rfl).nt,(hg rfl).lv,(hg rfl).df,(hg rfl).sg⟩
 cases p with
 | loc i o =>
   simp only [stAt,hl]
   cases f'.loc i with
   | none=>rfl
   | some cs =>
     simp only [Option.bind_some]
     split
     ·simp only [Option.map_some,Option.some.injEq];exact hm _
     ·rfl
 | tup vs=>rfl
 | und=>rfl
 | val w =>
   cases w with
   | ptr i o =>
     simp only [stAt]
     cases hf with
     | false=>rfl
     | true =>
       have h:=hg rfl
       obtain ⟨a1,a2,a3,a4⟩:=stv_ag (v:=v) h
       simp only [if_true,h.sg]
       split
       ·split
        ·simp only [Option.map_some,Option.some.injEq]
         refine Fr.ext' a3 ?_ ⟨a2.nt,a2.lv,a2.df,by simp only [a2.sg,a1];rfl⟩
         have:=(stv_ag (v:=v) (f:=f') (f':=f') ⟨rfl,rfl,rfl,rfl⟩).2.2.2
         show (stv v f).2.loc=(stv v f').2.loc
         rw [a4,this,hl]
        ·rfl
       ·rfl
   | mp g o =>
     simp only [stAt]
     cases hf with
     | false=>rfl
     | true =>
       have h:=hg rfl
       obtain ⟨a1,a2,a3,a4⟩:=stv_ag (v:=v) h
       simp only [if_true,h.sg]
       cases f'.sg.mu g with
       | none=>rfl
       | some cs =>
         simp only [Option.bind_some]
         split
         ·simp only [Option.map_some,Option.some.injEq]
          refine Fr.ext' a3 ?_ ⟨a2.nt,a2.lv,a2.df,by simp only [a2.sg,a1];rfl⟩
          have:=(stv_ag (v:=v) (f:=f') (f':=f') ⟨rfl,rfl,rfl,rfl⟩).2.2.2
          show (stv v f).2.loc=(stv v f').2.loc
          rw [a4,this,hl]
         ·rfl
   | _=>rfl
theorem mem_l {α:Type} {a b:List α} {s:α} (h:s ∈ a):s ∈ a ++ b:=List.mem_append_left _ h
theorem mem_r {α:Type} {a b:List α} {s:α} (h:s ∈ b):s ∈ a ++ b:=List.mem_append_right _ h
theorem keeps_ag {e e':Nat → Option TV} {s s':Sg}:∀ {ks:List Nat},(∀ k,k ∈ ks → e k=e' k) → (keeps e s s' ks ↔ keeps e' s s' ks)
 | [],_=>Iff.rfl
 | k :: ks,h=>by
   simp only [keeps,h k (List.mem_cons_self ..),keeps_ag (ks:=ks) (fun j hj=>h j (List.mem_cons_of_mem _ hj))]
theorem aop_ag {call:Caller} {d:Option Nat} {x:AOp} {f f':Fr} (hb:x.bar=false) (h:Ag x f f'):aop call d x f=(aop call d x f').map fun r=>(r.1,mix x.wl x.wg f r.2):=by
 have hs:=h.env
 cases x with
 | mv x=>simp only [aop,ev_ag (x:=x) hs];cases ev f'.env x <;> rfl
 | pick c p q =>
   simp only [aop,evV_ag (x:=c) (fun s m=>hs s (mem_l (mem_l m))),ev_ag (x:=p) (fun s m=>hs s (mem_l (mem_r m))),ev_ag (x:=q) (fun s m=>hs s (mem_r m))]
   cases evV f'.env c with
   | none=>rfl
   | some v =>
     simp only [Option.bind_some]
     cases asB v with
     | none=>rfl
     | some t =>
       simp only [Option.bind_some]
       cases (if t=true then ev f'.env p else ev f'.env q) <;> rfl
 | alloc lc z =>
   cases lc with
   | true=>cases hb
   | false =>
     have hg:=h.g rfl
     simp only [aop,Option.map_some,Option.some.injEq,Prod.mk.injEq,hg.sg,true_and]
     exact Fr.ext' rfl rfl ⟨hg.nt,hg.lv,hg.df,rfl⟩
 | box lc y =>
   cases lc with
   | true=>cases hb
   | false =>
     have hg:=h.g rfl
     simp only [aop,evV_ag (x:=y) hs,hg.sg]
     cases evV f'.env y with
     | none=>rfl
     | some v =>
       simp only [Option.bind_some,Option.map_some,Option.some.injEq,Prod.mk.injEq,true_and]
       exact Fr.ext' rfl rfl ⟨hg.nt,hg.lv,hg.df,rfl⟩
 | build z ps =>
   simp only [aop,evPs_ag (l:=ps) hs]
   cases evPs f'.env ps with
   | none=>rfl
   | some l=>simp only [Option.bind_some];cases fillA z l <;> rfl
 | bsl sz ps =>
   simp only [aop,evVs_ag (l:=ps) hs]
   cases evVs f'.env ps with
   | none=>rfl
   | some l=>simp only [Option.bind_some];split <;> rfl
 | ld hf n y =>
   simp only [aop,ev_ag (x:=y) hs]
   cases ev f'.env y with
   | none=>rfl
   | some p =>
     have hl:=ldAt_ag (hf:=hf) (n:=n) (p:=p) (h.loc rfl) h.g
     simp only [Option.bind_some,hl]
     cases ldAt f' hf n p <;> rfl
 | st hf n y v =>
   simp only [aop,ev_ag (x:=y) (fun s m=>hs s (mem_l m)),evV_ag (x:=v) (fun s m=>hs s (mem_r m))]
   cases ev f'.env y with
   | none=>rfl
   | some p =>
     simp only [Option.bind_some]
     cases evV f'.env v with
     | none=>rfl
     | some u =>
       simp only [Option.bind_some]
       split
       ·rw [stAt_ag (hf:=hf) (h.loc rfl) h.g]
        cases stAt f' hf u p <;> rfl
       ·rfl
 | nck y =>
   simp only [aop,ev_ag (x:=y) hs]
   cases ev f'.env y with
   | none=>rfl
   | some p=>simp only [Option.bind_some];cases nckOf p <;> rfl
 | bin op y z =>
   simp only [aop,evV_ag (x:=y) (fun s m=>hs s (mem_l m)),evV_ag (x:=z) (fun s m=>hs s (mem_r m))]
   cases evV f'.env y with
   | none=>rfl
   | some p =>
     cases evV f'.env z with
     | none=>rfl
     | some q=>simp only [Option.bind_some];cases abin op p q <;> rfl
 | beq ng y z =>
   simp only [aop,evV_ag (x:=y) (fun s m=>hs s (mem_l m)),evV_ag (x:=z) (fun s m=>hs s (mem_r m))]
   cases evV f'.env y with
   | none=>rfl
   | some p =>
     simp only [Option.bind_some]
     cases asB p with
     | none=>rfl
     | some b =>
       simp only [Option.bind_some]
       cases evV f'.env z with
       | none=>rfl
       | some q=>simp only [Option.bind_some];cases asB q <;> rfl
 | peq ng y z =>
   simp only [aop,ev_ag (x:=y) (fun s m=>hs s (mem_l m)),ev_ag (x:=z) (fun s m=>hs s (mem_r m))]
   cases ev f'.env y with
   | none=>rfl
   | some p =>
     simp only [Option.bind_some]
     cases isNilP p with
     | none=>rfl
     | some b =>
       simp only [Option.bind_some]
       cases ev f'.env z with
       | none=>rfl
       | some q =>
         simp only [Option.bind_some]
         cases isNilP q with
         | none=>rfl
         | some b'=>simp only [Option.bind_some];split <;> rfl
 | mmx mx y z =>
   simp only [aop,evV_ag (x:=y) (fun s m=>hs s (mem_l m)),evV_ag (x:=z) (fun s m=>hs s (mem_r m))]
   cases evV f'.env y with
   | none=>rfl
   | some p =>
     cases evV f'.env z with
     | none=>rfl
     | some q=>simp only [Option.bind_some];cases mmOf mx p q <;> rfl
 | aeq ng ks y z =>
   simp only [aop,evV_ag (x:=y) (fun s m=>hs s (mem_l m)),evV_ag (x:=z) (fun s m=>hs s (mem_r m))]
   cases evV f'.env y with
   | none=>rfl
   | some p =>
     cases evV f'.env z with
     | none=>rfl
     | some q=>simp only [Option.bind_some];cases aeqOf ks p q <;> rfl
 | unot y =>
   simp only [aop,evV_ag (x:=y) hs]
   cases evV f'.env y with
   | none=>rfl
   | some p=>simp only [Option.bind_some];cases asB p <;> rfl
 | uneg y =>
   simp only [aop,evV_ag (x:=y) hs]
   cases evV f'.env y with
   | none=>rfl
   | some p=>simp only [Option.bind_some];cases negOf p <;> rfl
 | cvt k y =>
   simp only [aop,evV_ag (x:=y) hs]
   cases evV f'.env y with
   | none=>rfl
   | some p=>simp only [Option.bind_some];cases asN p <;> rfl
 | mkf g fs cs =>
   simp only [aop,evVs_ag (l:=fs) (fun s m=>hs s (mem_l m)),evVs_ag (l:=cs) (fun s m=>hs s (mem_r m))]
   cases evVs f'.env fs with
   | none=>rfl
   | some p=>simp only [Option.bind_some];cases evVs f'.env cs <;> rfl
 | mkm kk =>
   have hg:=h.g rfl
   simp only [aop,Option.map_some,Option.some.injEq,Prod.mk.injEq,hg.sg,true_and]
   exact Fr.ext' rfl rfl ⟨hg.nt,hg.lv,hg.df,rfl⟩
 | fa off y =>
   simp only [aop,ev_ag (x:=y) hs]
   cases ev f'.env y with
   | none=>rfl
   | some p=>simp only [Option.bind_some];cases faOf off p <;> rfl
 | fld off n y =>
   simp only [aop,evV_ag (x:=y) hs]
   cases evV f'.env y with
   | none=>rfl
   | some p=>simp only [Option.bind_some];cases fldOf off n p <;> rfl
 | ia sz y z =>
   simp only [aop,evV_ag (x:=y) (fun s m=>hs s (mem_l m)),evV_ag (x:=z) (fun s m=>hs s (mem_r m))]
   cases evV f'.env y with
   | none=>rfl
   | some p =>
     cases evV f'.env z with
     | none=>rfl
     | some q =>
       simp only [Option.bind_some]
       cases asN q with
       | none=>rfl
       | some n=>simp only [Option.bind_some];cases iaOf sz n p <;> rfl
 | iaa len sz y z =>
   simp only [aop,ev_ag (x:=y) (fun s m=>hs s (mem_l m)),evV_ag (x:=z) (fun s m=>hs s (mem_r m))]
   cases ev f'.env y with
   | none=>rfl
   | some p =>
     cases evV f'.env z with
     | none=>rfl
     | some q =>
       simp only [Option.bind_some]
       cases asN q with
       | none=>rfl
       | some n =>
         simp only [Option.bind_some]
         split
         ·cases faOf (n.toNat * sz) p <;> rfl
         ·rfl
 | ixs y z =>
   simp only [aop,evV_ag (x:=y) (fun s m=>hs s (mem_l m)),evV_ag (x:=z) (fun s m=>hs s (mem_r m))]
   cases evV f'.env y with
   | none=>rfl
   | some p =>
     cases evV f'.env z with
     | none=>rfl
     | some q =>
       simp only [Option.bind_some]
       cases asN q with
       | none=>rfl
       | some n=>simp only [Option.bind_some];cases ixsOf n p <;> rfl
 | lk kk z ok m k =>
   have hg:=h.g rfl
   simp only [aop,evV_ag (x:=m) (fun s q=>hs s (mem_l q)),evV_ag (x:=k) (fun s q=>hs s (mem_r q)),hg.sg]
   cases evV f'.env m with
   | none=>rfl
   | some p =>
     cases evV f'.env k with
     | none=>rfl
     | some q =>
       simp only [Option.bind_some]
       cases keyOf kk q with
       | none=>rfl
       | some key=>simp only [Option.bind_some];cases lkOf f'.sg kk key p <;> rfl
 | ldo rt n y =>
   have hg:=h.g rfl
   simp only [aop,ev_ag (x:=y) (fun s m=>hs s (List.mem_cons_of_mem _ m)),hs rt (List.mem_cons_self ..),hg.sg]
   cases f'.env rt with
   | none=>rfl
   | some q =>
     cases ev f'.env y with
     | none=>rfl
     | some p=>simp only [Option.bind_some];cases ldoAt f'.sg.ob n q p <;> rfl
 | callq ks g as =>
   have hg:=h.g rfl
   simp only [aop,evV_ag (x:=g) (fun s q=>hs s (mem_r (mem_l q))),evVs_ag (l:=as) (fun s q=>hs s (mem_r (mem_r q))),hg.sg]
   cases evV f'.env g with
   | none=>rfl
   | some p =>
     simp only [Option.bind_some]
     cases evVs f'.env as with
     | none=>rfl
     | some l =>
       simp only [Option.bind_some]
       cases callOf call l f'.sg p with
       | none=>rfl
       | some r =>
         simp only [Option.bind_some]
         have hk:keeps f.env f.sg r.2 ks ↔ keeps f'.env f'.sg r.2 ks:=by
          rw [hg.sg]
          exact keeps_ag (fun s m=>hs s (mem_l m))
         unfold qres
         by_cases hh:keeps f'.env f'.sg r.2 ks
         ·rw [if_pos hh,if_pos (hk.2 hh)]
          simp only [Option.map_some,Option.some.injEq,Prod.mk.injEq,true_and]
          exact Fr.ext' rfl rfl ⟨hg.nt,hg.lv,hg.df,rfl⟩
         ·rw [if_neg hh,if_neg (fun x=>hh (hk.1 x))]
          rfl
 | wop k xs =>
   have hg:=h.g rfl
   simp only [aop,evVs_ag (l:=xs) hs,hg.sg]
   cases evVs f'.env xs with
   | none=>rfl
   | some l =>
     simp only [Option.bind_some]
     cases wopOf k f'.sg l with
     | none=>rfl
     | some r=>simp only [Option.bind_some,Option.map_some,Option.some.injEq,Prod.mk.injEq,true_and];exact Fr.ext' rfl rfl ⟨hg.nt,hg.lv,hg.df,rfl⟩
 | mu kk m k v =>
   have hg:=h.g rfl
   simp only [aop,evV_ag (x:=m) (fun s q=>hs s (mem_l (mem_l q))),evV_ag (x:=k) (fun s q=>hs s (mem_l (mem_r q))),evV_ag (x:=v) (fun s q=>hs s (mem_r q)),hg.sg]
   cases evV f'.env m with
   | none=>rfl
   | some p =>
     cases evV f'.env k with
     | none=>rfl
     | some q =>
       simp only [Option.bind_some]
       cases keyOf kk q with
       | none=>rfl
       | some key =>
         simp only [Option.bind_some]
         cases evV f'.env v with
         | none=>rfl
         | some u =>
           simp only [Option.bind_some]
           cases mapOf f'.sg kk p with
           | none=>rfl
           | some r=>simp only [Option.bind_some,Option.map_some,Option.some.injEq,Prod.mk.injEq,true_and];exact Fr.ext' rfl rfl ⟨hg.nt,hg.lv,hg.df,rfl⟩
 | dl kk m k =>
   have hg:=h.g rfl
   simp only [aop,evV_ag (x:=m) (fun s q=>hs s (mem_l q)),evV_ag (x:=k) (fun s q=>hs s (mem_r q)),hg.sg]
   cases evV f'.env m with
   | none=>rfl
   | some p =>
     cases evV f'.env k with
     | none=>rfl
     | some q =>
       simp only [Option.bind_some]
       cases keyOf kk q with
       | none=>rfl
       | some key =>
         simp only [Option.bind_some]
         cases mapOf f'.sg kk p with
         | none=>rfl
         | some r=>simp only [Option.bind_some,Option.map_some,Option.some.injEq,Prod.mk.injEq,true_and];exact Fr.ext' rfl rfl ⟨hg.nt,hg.lv,hg.df,rfl⟩
 | ext y i =>
   simp only [aop,ev_ag (x:=y) hs]
   cases ev f'.env y with
   | none=>rfl
   | some p=>simp only [Option.bind_some];cases extOf i p <;> rfl
 | call g as =>
   have hg:=h.g rfl
   simp only [aop,evV_ag (x:=g) (fun s q=>hs s (mem_l q)),evVs_ag (l:=as) (fun s q=>hs s (mem_r q)),hg.sg]
   cases evV f'.env g with
   | none=>rfl
   | some p =>
     simp only [Option.bind_some]
     cases evVs f'.env as with
     | none=>rfl
     | some l =>
       simp only [Option.bind_some]
       cases callOf call l f'.sg p with
       | none=>rfl
       | some r=>simp only [Option.bind_some,Option.map_some,Option.some.injEq,Prod.mk.injEq,true_and];exact Fr.ext' rfl rfl ⟨hg.nt,hg.lv,hg.df,rfl⟩
 | len st y =>
   simp only [aop,evV_ag (x:=y) hs]
   cases evV f'.env y with
   | none=>rfl
   | some p=>simp only [Option.bind_some];cases lenOfA st p <;> rfl
 | app sz b s y =>
   have hg:=h.g rfl
   simp only [aop,evV_ag (x:=s) (fun s q=>hs s (mem_l q)),evV_ag (x:=y) (fun s q=>hs s (mem_r q))]
   cases evV f'.env s with
   | none=>rfl
   | some p =>
     cases evV f'.env y with
     | none=>rfl
     | some q =>
       simp only [Option.bind_some]
       cases sliceOf sz p with
       | none=>rfl
       | some r1 =>
         cases sliceOf sz q with
         | none=>rfl
         | some r2=>simp only [Option.bind_some];exact appOf_ag hg
 | sl sz y lo hi mx =>
   simp only [aop,evV_ag (x:=y) (fun s q=>hs s (mem_l (mem_l (mem_l q))))]
   cases evV f'.env y with
   | none=>rfl
   | some p =>
     have:slOf sz f lo hi mx p=slOf sz f' lo hi mx p:=by
      cases p with
      | slice o sz' xs =>
        simp only [slOf,bound_ag (x:=lo) (n:=0) (fun s q=>hs s (mem_l (mem_l (mem_r q)))),bound_ag (x:=hi) (n:=xs.length) (fun s q=>hs s (mem_l (mem_r q)))]
        split
        ·rfl
        ·congr 1;funext l;congr 1;funext h'
         rw [bound_ag (x:=mx) (n:=h') (fun s q=>hs s (mem_r q))]
      | ms g off len sz' =>
        simp only [slOf,bound_ag (x:=lo) (n:=0) (fun s q=>hs s (mem_l (mem_l (mem_r q)))),bound_ag (x:=hi) (n:=len) (fun s q=>hs s (mem_l (mem_r q)))]
        split
        ·rfl
        ·congr 1;funext l;congr 1;funext h'
         rw [bound_ag (x:=mx) (n:=h') (fun s q=>hs s (mem_r q))]
      | _=>rfl
     simp only [Option.bind_some,this]
     cases slOf sz f' lo hi mx p <;> rfl
 | sls y lo hi =>
   simp only [aop,evV_ag (x:=y) (fun s q=>hs s (mem_l (mem_l q)))]
   cases evV f'.env y with
   | none=>rfl
   | some p =>
     have:slsOf f lo hi p=slsOf f' lo hi p:=by
      unfold slsOf
      split
      ·rename_i s
       rw [bound_ag (x:=lo) (n:=0) (fun s q=>hs s (mem_l (mem_r q))),bound_ag (x:=hi) (n:=s.size) (fun s q=>hs s (mem_r q))]
      ·rfl
     simp only [Option.bind_some,this]
     cases slsOf f' lo hi p <;> rfl
 | dfr g as =>
   have hg:=h.g rfl
   simp only [aop,evV_ag (x:=g) (fun s q=>hs s (mem_l q)),evVs_ag (l:=as) (fun s q=>hs s (mem_r q))]
   cases evV f'.env g with
   | none=>rfl
   | some p =>
     simp only [Option.bind_some]
     cases evVs f'.env as with
     | none=>rfl
     | some l =>
       simp only [Option.bind_some]
       cases p with
       | fn k a b=>simp only [dfrOf,Option.bind_some,Option.map_some,Option.some.injEq,Prod.mk.injEq,true_and];exact Fr.ext' rfl rfl ⟨hg.nt,hg.lv,by simp only [hg.df];rfl,hg.sg⟩
       | _=>rfl
def AIns.rs (i:AIns):List Nat:=(match i.g with | some (s,_)=>[s] | none=>[]) ++ i.op.rs
structure AgI (i:AIns) (f f':Fr):Prop where
 env:∀ s,s ∈ i.rs → f.env s=f'.env s
 loc:i.op.rl=true → f.loc=f'.loc
 g:i.op.rg=true → SameG f f'
def putE (d:Option Nat) (e e':Nat → Option TV):Nat → Option TV :=
 match d with
 | some k=>upd e k (e' k)
 | none=>e
def mixI (i:AIns) (f g:Fr):Fr:={ mix i.op.wl i.op.wg f g with env:=putE i.d f.env g.env }
theorem mixI_put (i:AIns) (f g:Fr) (v:Option TV):mixI i f (putD g i.d v)=putD (mix i.op.wl i.op.wg f g) i.d v:=by
 cases i with
 | mk d gg op =>
   cases d with
   | none=>rfl
   | some k =>
     refine Fr.ext' ?_ rfl ⟨rfl,rfl,rfl,rfl⟩
     funext j
     simp only [mixI,putE,putD,mix,upd]
     split <;> simp_all
theorem wl_rl {x:AOp} (h:x.wl=true):x.rl=true:=by cases x <;> simp_all [AOp.wl,AOp.rl]
theorem wg_rg {x:AOp} (h:x.wg=true):x.rg=true:=by
 cases x with
 | alloc lc _=>cases lc <;> simp_all [AOp.wg,AOp.rg]
 | box lc _=>cases lc <;> simp_all [AOp.wg,AOp.rg]
 | _=>simp_all [AOp.wg,AOp.rg]
theorem ins_ag {call:Caller} {i:AIns} {f f':Fr} (hb:i.op.bar=false) (h:AgI i f f'):ins call i f=(ins call i f').map (mixI i f):=by
 have ha:Ag i.op f f':=⟨fun s m=>h.env s (mem_r m),h.loc,h.g⟩
 have hrun:run1 call i f=(run1 call i f').map (mixI i f):=by
  unfold run1
  rw [aop_ag hb ha]
  cases aop call i.d i.op f' with
  | none=>rfl
  | some r =>
    simp only [Option.map_some,Option.bind_some,Option.some.injEq]
    exact (mixI_put i f r.2 r.1).symm
 unfold ins
 cases hg:i.g with
 | none=>exact hrun
 | some p =>
   obtain ⟨s,want⟩:=p
   simp only
   rw [h.env s (by unfold AIns.rs;rw [hg];simp)]
   cases f'.env s with
   | none=>rfl
   | some v =>
     simp only [Option.bind_some]
     cases guardOf v with
     | none=>rfl
     | some b =>
       simp only [Option.bind_some]
       split
       ·exact hrun
       ·simp only [Option.map_some,Option.some.injEq]
        rw [mixI_put]
        have hmm:mix i.op.wl i.op.wg f f'=f:=by
         refine Fr.ext' rfl ?_ ⟨?_,?_,?_,?_⟩
         ·simp only [mix];split
          ·rename_i e;exact (h.loc (wl_rl e)).symm
          ·rfl
         all_goals
          simp only [mix]
          split
          ·rename_i e;have:=h.g (wg_rg e);first | exact this.nt.symm | exact this.lv.symm | exact this.df.symm | exact this.sg.symm
          ·rfl
        rw [hmm]
def indep (i j:AIns):Bool :=
 !i.op.bar && !j.op.bar &&
 (match i.d with
   | some d=>!j.rs.contains d
   | none=>true) &&
 (match j.d with
   | some d=>!i.rs.contains d
   | none=>true) &&
 (match i.d,j.d with
   | some d,some e=>d != e
   | _,_=>true) &&
 !(i.op.wl && j.op.rl) && !(j.op.wl && i.op.rl) && !(i.op.wg && j.op.rg) && !(j.op.wg && i.op.rg)
theorem ag_of {call:Caller} {i j:AIns} {f g:Fr} (hb:i.op.bar=false) (hi:ins call i f=some g) (h1:∀ d,i.d=some d → d ∉ j.rs) (h2:¬ (i.op.wl=true ∧ j.op.rl=true)) (h3:¬ (i.op.wg=true ∧ j.op.rg=true)) :
 AgI j g f:=by
 have hself:=ins_ag (call:=call) (f:=f) (f':=f) hb ⟨fun _ _=>rfl,fun _=>rfl,fun _=>⟨rfl,rfl,rfl,rfl⟩⟩
 rw [hi] at hself
 simp only [Option.map_some,Option.some.injEq] at hself
 refine ⟨?_,?_,?_⟩
 ·intro s hs
  rw [hself]
  simp only [mixI,putE]
  cases hd:i.d with
  | none=>rfl
  | some d =>
    simp only [upd]
    rw [if_neg (fun e=>h1 d hd (by rw [← e];exact hs))]
 ·intro hl
  rw [hself]
  simp only [mixI,mix]
  rw [if_neg (fun e=>h2 ⟨e,hl⟩)]
 ·intro hl
  have e:¬ i.op.wg=true:=fun e=>h3 ⟨e,hl⟩
  rw [hself]
  refine ⟨?_,?_,?_,?_⟩ <;> (simp only [mixI,mix];rw [if_neg e])
theorem comm {call:Caller} {i j:AIns} (h:indep i j=true) (f:Fr):(ins call i f).bind (ins call j)=(ins call j f).bind (ins call i):=by
 simp only [indep,Bool.and_eq_true,Bool.not_eq_true',Bool.and_eq_false_iff] at h
 obtain ⟨⟨⟨⟨⟨⟨⟨⟨bi,bj⟩,d1⟩,d2⟩,d3⟩,l1⟩,l2⟩,g1⟩,g2⟩:=h
 have hd1:∀ d,i.d=some d → d ∉ j.rs:=fun d e=>by rw [e] at d1;simpa using d1
 have hd2:∀ d,j.d=some d → d ∉ i.rs:=fun d e=>by rw [e] at d2;simpa using d2
 have nn:∀ {a b:Bool},(a=false ∨ b=false) → ¬ (a=true ∧ b=true):=fun h=>by rcases h with h | h <;> simp [h]
 cases hi:ins call i f with
 | none =>
   cases hj:ins call j f with
   | none=>rfl
   | some q =>
     have:=ins_ag (call:=call) bi (ag_of bj hj hd2 (nn l2) (nn g2))
     rw [hi] at this
     simp only [Option.bind_none,Option.bind_some,this,Option.map_none]
 | some p =>
   have hj1:=ins_ag (call:=call) bj (ag_of bi hi hd1 (nn l1) (nn g1))
   cases hj:ins call j f with
   | none =>
     rw [hj] at hj1
     simp only [Option.bind_none,Option.bind_some,hj1,Option.map_none]
   | some q =>
     have hi1:=ins_ag (call:=call) bi (ag_of bj hj hd2 (nn l2) (nn g2))
     rw [hj] at hj1
     rw [hi] at hi1
     simp only [Option.bind_some,hj1,hi1,Option.map_some,Option.some.injEq]
     have sp:=ins_ag (call:=call) (f:=f) (f':=f) bi ⟨fun _ _=>rfl,fun _=>rfl,fun _=>⟨rfl,rfl,rfl,rfl⟩⟩
     have sq:=ins_ag (call:=call) (f:=f) (f':=f) bj ⟨fun _ _=>rfl,fun _=>rfl,fun _=>⟨rfl,rfl,rfl,rfl⟩⟩
     rw [hi] at sp
     rw [hj] at sq
     simp only [Option.map_some,Option.some.injEq] at sp sq
     refine Fr.ext' ?_ ?_ ⟨?_,?_,?_,?_⟩
     ·funext s
      have e1:p.env s=(putE i.d f.env p.env) s:=congrFun (congrArg Fr.env sp) s
      have e2:q.env s=(putE j.d f.env q.env) s:=congrFun (congrArg Fr.env sq) s
      simp only [mixI,putE] at e1 e2 ⊢
      cases hid:i.d with
      | none =>
        rw [hid] at e1
        cases hjd:j.d with
        | none=>rw [hjd] at e2;simp only at e1 e2 ⊢;rw [e1,e2]
        | some dj =>
          rw [hjd] at e2
          simp only [upd] at e1 e2 ⊢
          split
          ·rename_i hh;rw [hh]
          ·rename_i hne;rw [if_neg hne] at e2;rw [e1,e2]
      | some di =>
        rw [hid] at e1 d3
        cases hjd:j.d with
        | none =>
          rw [hjd] at e2
          simp only [upd] at e1 e2 ⊢
          split
          ·rename_i hh;subst hh;rfl
          ·rename_i hne;rw [if_neg hne] at e1;rw [e1,e2]
        | some dj =>
          rw [hjd] at e2 d3
          have hne':di ≠ dj:=by simpa using d3
          simp only [upd] at e1 e2 ⊢
          by_cases h1:s=di
          ·subst h1;rw [if_neg hne',if_pos rfl]
          ·by_cases h2:s=dj
           ·subst h2;rw [if_pos rfl,if_neg h1]
           ·rw [if_neg h2,if_neg h1];rw [if_neg h1] at e1;rw [if_neg h2] at e2;rw [e1,e2]
     ·have e1:=congrArg Fr.loc sp
      have e2:=congrArg Fr.loc sq
      simp only [mixI,mix] at e1 e2 ⊢
      cases hw1:i.op.wl <;> cases hw2:j.op.wl <;> simp only [hw1,hw2,if_true,Bool.false_eq_true,if_false] at e1 e2 ⊢
      ·rw [e1,e2]
      ·exact absurd ⟨hw1,wl_rl hw2⟩ (nn l1)
     all_goals
      have e1:=sp
      have e2:=sq
      simp only [mixI,mix] at e1 e2 ⊢
      cases hw1:i.op.wg <;> cases hw2:j.op.wg <;> simp only [hw1,hw2,if_true,Bool.false_eq_true,if_false] at e1 e2 ⊢
      ·first
        | (have k1:=congrArg Fr.nt e1;have k2:=congrArg Fr.nt e2;simp only at k1 k2;rw [k1,k2])
        | (have k1:=congrArg Fr.lv e1;have k2:=congrArg Fr.lv e2;simp only at k1 k2;rw [k1,k2])
        | (have k1:=congrArg Fr.df e1;have k2:=congrArg Fr.df e2;simp only at k1 k2;rw [k1,k2])
        | (have k1:=congrArg Fr.sg e1;have k2:=congrArg Fr.sg e2;simp only at k1 k2;rw [k1,k2])
      ·exact absurd ⟨hw1,wg_rg hw2⟩ (nn g1)
end Go.Sim
namespace Go.Sim
open Go
inductive Anc (D:Nat → List Nat):Nat → Nat → Prop
 | one {j i:Nat}:i ∈ D j → Anc D j i
 | step {j d i:Nat}:d ∈ D j → Anc D d i → Anc D j i
def GoodS (D:Nat → List Nat) (S:List Nat):(Nat → Prop) → List Nat → Prop
 | _,[]=>True
 | seen,x :: l=>(∀ d,Anc D x d → d ∈ S → seen d) ∧ GoodS D S (fun y=>y=x ∨ seen y) l
theorem GoodS.weak {D:Nat → List Nat} {S S':List Nat} (hS:∀ d,d ∈ S' → d ∈ S):∀ (l:List Nat) (seen seen':Nat → Prop),(∀ d,d ∈ S' → seen d → seen' d) → GoodS D S seen l → GoodS D S' seen' l
 | [],_,_,_,_=>trivial
 | x :: l,seen,seen',h,hg=>⟨fun d hd hm=>h d hm (hg.1 d hd (hS d hm)),GoodS.weak hS l _ _ (fun d hd hx=>hx.imp id (h d hd)) hg.2⟩
theorem GoodS.drop {D:Nat → List Nat} {S:List Nat} {m:Nat} (hm:m ∉ S):∀ (l1 l2:List Nat) (seen seen':Nat → Prop),(∀ d,d ∈ S → seen d → seen' d) → GoodS D (m :: S) seen (l1 ++ m :: l2) → GoodS D S seen' (l1 ++ l2)
 | [],l2,seen,seen',h,hg=>GoodS.weak (fun d hd=>List.mem_cons_of_mem _ hd) l2 _ _ (fun d hd hx=>hx.elim (fun e=>absurd (e ▸ hd) hm) (h d hd)) hg.2
 | x :: l1,l2,seen,seen',h,hg=>⟨fun d hd hm'=>h d hm' (hg.1 d hd (List.mem_cons_of_mem _ hm')),GoodS.drop hm l1 l2 _ _ (fun d hd hx=>hx.imp id (h d hd)) hg.2⟩
theorem GoodS.noAnc {D:Nat → List Nat} {S:List Nat} {m:Nat} (hm:m ∈ S):∀ (l1 l2:List Nat) (seen:Nat → Prop),¬ seen m → m ∉ l1 → GoodS D S seen (l1 ++ l2) → ∀ x ∈ l1,¬ Anc D x m
 | [],_,_,_,_,_,x,hx=>by cases hx
 | y :: l1,l2,seen,hs,hn,hg,x,hx=>by
   cases hx with
   | head=>exact fun ha=>hs (hg.1 m ha hm)
   | tail _ hx =>
     refine GoodS.noAnc hm l1 l2 _ ?_ (fun h=>hn (List.mem_cons_of_mem _ h)) hg.2 x hx
     rintro (e | e)
     ·exact hn (e ▸ List.mem_cons_self ..)
     ·exact hs e
structure Fresh (d:Nat) (fr:Fr):Prop where
 loc:fr.loc d=none
 env:∀ s o,fr.env s ≠ some (.loc d o)
theorem fresh_of {d:Nat} (fr:Fr):∀ {ds:List Nat},d ∈ ds → Fresh d (fr.fresh ds)
 | e :: ds,h=>by
   by_cases hd:d=e
   ·subst hd
    refine ⟨by simp [Fr.fresh,upd],fun s o hs=>?_⟩
    simp only [Fr.fresh,dropL] at hs
    split at hs
    ·split at hs
     ·cases hs
     ·rename_i j o' e hj;cases hs;exact hj rfl
    ·rename_i hx;exact hx _ _ hs
   ·have ih:=fresh_of fr (ds:=ds) (by cases h with | head=>exact absurd rfl hd | tail _ h=>exact h)
    refine ⟨by simp only [Fr.fresh,upd,if_neg hd];exact ih.loc,fun s o hs=>?_⟩
    refine ih.env s o ?_
    simp only [Fr.fresh,dropL] at hs
    split at hs
    ·split at hs
     ·cases hs
     ·rename_i j o' e hj;cases hs;exact e
    ·exact hs
theorem dropL_id {d:Nat} {fr:Fr} (h:Fresh d fr):dropL d fr.env=fr.env:=by
 funext s
 simp only [dropL]
 split
 ·rename_i j o e
  rw [if_neg (fun hj=>h.env s o (by rw [e,hj])),e]
 ·rfl
def addL (d:Nat) (z:List AV) (fr:Fr):Fr:={ fr with env:=upd fr.env d (some (.loc d 0)),loc:=upd fr.loc d (some z) }
def alOf (i:AIns):Option Nat :=
 match i.g,i.op with
 | none,.alloc true _=>i.d
 | _,_=>none
theorem ins_al {call:Caller} {i:AIns} {d:Nat} (h:alOf i=some d):∃ z,∀ fr,Fresh d fr → ins call i fr=some (addL d z fr):=by
 obtain ⟨id,g,op⟩:=i
 unfold alOf at h
 split at h
 ·rename_i z hg hop
  simp only at h hg hop
  subst h hg hop
  refine ⟨z,fun fr hf=>?_⟩
  simp only [ins,run1,aop,Option.bind_some,putD,dropL_id hf]
  rfl
 ·cases h
theorem addL_env {d s:Nat} {z:List AV} {fr:Fr} (h:s ≠ d):(addL d z fr).env s=fr.env s:=by simp [addL,upd,h]
theorem aop_addL {call:Caller} {jd:Option Nat} {op:AOp} {d:Nat} {z:List AV} {fr:Fr} (hf:Fresh d fr) (hr:d ∉ op.rs) (hd:jd ≠ some d) :
 aop call jd op (addL d z fr)=(aop call jd op fr).map fun r=>(r.1,addL d z r.2):=by
 have hs:∀ s,s ∈ op.rs → (addL d z fr).env s=fr.env s:=fun s m=>addL_env (fun e=>hr (e ▸ m))
 by_cases hb:op.bar=true
 ·have drop_upd:∀ j,j ≠ d → dropL j (upd fr.env d (some (.loc d 0)))=upd (dropL j fr.env) d (some (.loc d 0)):=by
   intro j hj
   funext s
   simp only [dropL,upd]
   by_cases hsd:s=d
   ·simp [hsd,Ne.symm hj]
   ·simp [hsd]
  have uu:∀ (j:Nat) (x:List AV),j ≠ d → upd (upd fr.loc d (some z)) j (some x)=upd (upd fr.loc j (some x)) d (some z):=by
   intro j x hj
   funext s
   simp only [upd]
   by_cases hsd:s=d
   ·subst hsd;simp [Ne.symm hj]
   ·simp [hsd]
  cases op with
  | alloc lc y =>
    cases lc with
    | false=>cases hb
    | true =>
      cases jd with
      | none=>rfl
      | some j =>
        have hj:j ≠ d:=fun e=>hd (by rw [e])
        simp only [aop,Option.bind_some,Option.map_some,addL,drop_upd j hj,uu j y hj]
  | box lc x =>
    cases lc with
    | false=>cases hb
    | true =>
      cases jd with
      | none=>rfl
      | some j =>
        have hj:j ≠ d:=fun e=>hd (by rw [e])
        simp only [aop,Option.bind_some,evV_ag (x:=x) hs]
        cases evV fr.env x with
        | none=>rfl
        | some v=>simp only [Option.bind_some,Option.map_some,addL,drop_upd j hj,uu j v.cells hj]
  | _=>cases hb
 ·have hb':op.bar=false:=by simpa using hb
  have nl:∀ i o,∀ x:AO,ev fr.env x=some (.loc i o) → i ≠ d:=by
   intro i o x hx e
   subst e
   cases x with
   | t n=>exact hf.env n o hx
   | c a=>simp [ev] at hx
   | f a=>simp [ev] at hx
  by_cases hl:op.rl=true
  ·cases op with
   | ld hh n x =>
     simp only [aop,ev_ag (x:=x) hs]
     cases hx:ev fr.env x with
     | none=>rfl
     | some p =>
       have e:ldAt (addL d z fr) hh n p=ldAt fr hh n p:=by
        cases p with
        | loc i o=>simp only [ldAt,addL,upd_ne _ _ (nl i o x hx)]
        | tup vs=>rfl
        | und=>rfl
        | val v=>cases v <;> rfl
       simp only [Option.bind_some,e]
       cases ldAt fr hh n p <;> rfl
   | st hh n x y =>
     simp only [aop,ev_ag (x:=x) (fun s m=>hs s (mem_l m)),evV_ag (x:=y) (fun s m=>hs s (mem_r m))]
     cases hx:ev fr.env x with
     | none=>rfl
     | some p =>
       simp only [Option.bind_some]
       cases evV fr.env y with
       | none=>rfl
       | some v =>
         simp only [Option.bind_some]
         split
         ·have e:stAt (addL d z fr) hh v p=(stAt fr hh v p).map (addL d z):=by
           cases p with
           | loc i o =>
             have hi:=nl i o x hx
             simp only [stAt,addL,upd_ne _ _ hi]
             cases fr.loc i with
             | none=>rfl
             | some cs =>
               simp only [Option.bind_some]
               split
               ·simp only [Option.map_some,Option.some.injEq]
                refine Fr.ext' rfl ?_ ⟨rfl,rfl,rfl,rfl⟩
                funext s
                show _=upd (upd fr.loc i (some (wr cs o v.cells))) d (some z) s
                simp only [upd]
                by_cases hsd:s=d
                ·subst hsd;simp [Ne.symm hi]
                ·simp [hsd]
               ·rfl
           | tup vs=>rfl
           | und=>rfl
           | val w =>
             cases w with
             | ptr i o =>
               simp only [stAt]
               split
               ·have e1:(stv v (addL d z fr)).1=(stv v fr).1 ∧ (stv v (addL d z fr)).2=addL d z (stv v fr).2:=by
                 cases v with
                 | slice own sz xs =>
                   cases own with
                   | tip t =>
                     have e3:(addL d z fr).lv t=fr.lv t:=rfl
                     simp only [stv,e3]
                     cases fr.lv t <;> exact ⟨rfl,rfl⟩
                   | _=>exact ⟨rfl,rfl⟩
                 | _=>exact ⟨rfl,rfl⟩
                have e2:(addL d z fr).sg.ob i=fr.sg.ob i:=rfl
                rw [e2]
                cases fr.sg.ob i with
                | none=>rfl
                | some ob =>
                  cases ob with
                  | map kk m=>rfl
                  | row cs =>
                    simp only [e1.1,e1.2]
                    split <;> rfl
               ·rfl
             | mp g o =>
               simp only [stAt]
               split
               ·have e1:(stv v (addL d z fr)).1=(stv v fr).1 ∧ (stv v (addL d z fr)).2=addL d z (stv v fr).2:=by
                 cases v with
                 | slice own sz xs =>
                   cases own with
                   | tip t =>
                     have e3:(addL d z fr).lv t=fr.lv t:=rfl
                     simp only [stv,e3]
                     cases fr.lv t <;> exact ⟨rfl,rfl⟩
                   | _=>exact ⟨rfl,rfl⟩
                 | _=>exact ⟨rfl,rfl⟩
                have e2:(addL d z fr).sg.mu g=fr.sg.mu g:=rfl
                rw [e2]
                cases fr.sg.mu g with
                | none=>rfl
                | some cs =>
                  simp only [Option.bind_some,e1.1,e1.2]
                  split <;> rfl
               ·rfl
             | _=>rfl
          rw [e]
          cases stAt fr hh v p <;> rfl
         ·rfl
   | _=>cases hl
  ·have hl':op.rl=false:=by simpa using hl
   have hwl:op.wl=false:=by cases hw:op.wl with | false=>rfl | true=>exact absurd (wl_rl hw) hl
   have self:=aop_ag (call:=call) (d:=jd) (x:=op) (f:=fr) (f':=fr) hb' ⟨fun _ _=>rfl,fun _=>rfl,fun _=>⟨rfl,rfl,rfl,rfl⟩⟩
   have cr:=aop_ag (call:=call) (d:=jd) (x:=op) (f:=addL d z fr) (f':=fr) hb' ⟨hs,fun e=>absurd e hl,fun _=>⟨rfl,rfl,rfl,rfl⟩⟩
   rw [cr]
   cases hop:aop call jd op fr with
   | none=>rfl
   | some r =>
     rw [hop] at self
     simp only [Option.map_some,Option.some.injEq] at self
     have e2:r.2=mix op.wl op.wg fr r.2:=congrArg Prod.snd self
     simp only [Option.map_some,Option.some.injEq,Prod.mk.injEq,true_and]
     have he:r.2.env=fr.env:=by have:=congrArg Fr.env e2;simpa [mix] using this
     have hlo:r.2.loc=fr.loc:=by have:=congrArg Fr.loc e2;simpa [mix,hwl] using this
     refine Fr.ext' ?_ ?_ ⟨?_,?_,?_,?_⟩
     ·show (addL d z fr).env=(addL d z r.2).env
      simp only [addL,he]
     ·show (if op.wl=true then r.2.loc else (addL d z fr).loc)=_
      rw [hwl]
      simp only [addL,hlo]
      rfl
     all_goals
      simp only [mix,addL]
      split
      ·rfl
      ·rename_i hw
       first
        | (have:=congrArg Fr.nt e2;simp only [mix,if_neg hw] at this;exact this.symm)
        | (have:=congrArg Fr.lv e2;simp only [mix,if_neg hw] at this;exact this.symm)
        | (have:=congrArg Fr.df e2;simp only [mix,if_neg hw] at this;exact this.symm)
        | (have:=congrArg Fr.sg e2;simp only [mix,if_neg hw] at this;exact this.symm)
theorem fa_loc {off:Nat} {p:TV} {i o:Nat} (h:faOf off p=some (.loc i o)):∃ o',p=.loc i o':=by
 cases p with
 | loc j k=>simp only [faOf,Option.some.injEq,TV.loc.injEq] at h;exact ⟨k,by rw [h.1]⟩
 | tup vs=>simp [faOf] at h
 | und=>simp [faOf] at h
 | val v=>cases v <;> simp [faOf] at h
theorem nck_loc {p:TV} {i o:Nat} (h:nckOf p=some (.loc i o)):∃ o',p=.loc i o':=by
 cases p with
 | loc j k=>simp only [nckOf,Option.some.injEq,TV.loc.injEq] at h;exact ⟨k,by rw [h.1]⟩
 | tup vs=>simp [nckOf] at h
 | und=>simp [nckOf] at h
 | val v=>cases v <;> simp [nckOf] at h
theorem toTV_loc {l:List AV} {i o:Nat}:toTV l ≠ .loc i o:=by
 cases l with
 | nil=>simp [toTV]
 | cons x r=>cases r <;> simp [toTV]
theorem aop_fresh {call:Caller} {jd:Option Nat} {op:AOp} {d:Nat} {fr:Fr} {r:Option TV × Fr} (hf:Fresh d fr) (hd:jd ≠ some d) (h:aop call jd op fr=some r):Fresh d r.2 ∧ ∀ o,r.1 ≠ some (.loc d o):=by
 have nl:∀ o,∀ x:AO,ev fr.env x ≠ some (.loc d o):=by
  intro o x hx
  cases x with
  | t n=>exact hf.env n o hx
  | c a=>simp [ev] at hx
  | f a=>simp [ev] at hx
 by_cases hb:op.bar=true
 ·have hdrop:∀ (j:Nat) (x:List AV),j ≠ d → Fresh d { fr with env:=dropL j fr.env,loc:=upd fr.loc j (some x) }:=by
   intro j x hj
   refine ⟨by simp only [upd,if_neg (Ne.symm hj)];exact hf.loc,fun s o hs=>hf.env s o ?_⟩
   simp only [dropL] at hs
   split at hs
   ·split at hs
    ·cases hs
    ·rename_i e _;rw [e];exact hs
   ·exact hs
  cases op with
  | alloc lc y =>
    cases lc with
    | false=>cases hb
    | true =>
      cases jd with
      | none=>simp [aop] at h
      | some j =>
        have hj:j ≠ d:=fun e=>hd (by rw [e])
        simp only [aop,Option.bind_some,Option.some.injEq] at h
        subst h
        exact ⟨hdrop j y hj,fun o e=>hj (by simp at e;exact e.1)⟩
  | box lc x =>
    cases lc with
    | false=>cases hb
    | true =>
      cases jd with
      | none=>simp [aop] at h
      | some j =>
        have hj:j ≠ d:=fun e=>hd (by rw [e])
        simp only [aop,Option.bind_some,Option.bind_eq_some_iff,Option.some.injEq] at h
        obtain ⟨v,_,rfl⟩:=h
        exact ⟨hdrop j v.cells hj,fun o e=>hj (by simp at e;exact e.1)⟩
  | _=>cases hb
 ·have hb':op.bar=false:=by simpa using hb
  have self:=aop_ag (call:=call) (d:=jd) (x:=op) (f:=fr) (f':=fr) hb' ⟨fun _ _=>rfl,fun _=>rfl,fun _=>⟨rfl,rfl,rfl,rfl⟩⟩
  rw [h] at self
  simp only [Option.map_some,Option.some.injEq] at self
  have e2:r.2=mix op.wl op.wg fr r.2:=congrArg Prod.snd self
  have he:r.2.env=fr.env:=by have:=congrArg Fr.env e2;simpa [mix] using this
  have henv:∀ s o,r.2.env s ≠ some (.loc d o):=fun s o=>by rw [he];exact hf.env s o
  have hlo:op.wl=false → r.2.loc d=none:=by
   intro hw
   have:=congrArg Fr.loc e2
   simp only [mix,hw] at this
   rw [this]
   exact hf.loc
  cases op with
  | st hh n x y =>
    simp only [aop,Option.bind_eq_some_iff] at h
    obtain ⟨p,hp,v,hv,h⟩:=h
    split at h
    ·simp only [Option.bind_eq_some_iff,Option.some.injEq] at h
     obtain ⟨fr',hst,rfl⟩:=h
     refine ⟨⟨?_,henv⟩,fun o e=>by cases e⟩
     cases p with
     | loc i o =>
       have hi:d ≠ i:=fun e=>nl o x (by rw [hp,e])
       simp only [stAt,Option.bind_eq_some_iff] at hst
       obtain ⟨cs,_,hst⟩:=hst
       split at hst
       ·simp only [Option.some.injEq] at hst
        subst hst
        simp only [upd,if_neg hi]
        exact hf.loc
       ·cases hst
     | tup vs=>simp [stAt] at hst
     | und=>simp [stAt] at hst
     | val w =>
       cases w with
       | ptr i o =>
         simp only [stAt] at hst
         split at hst
         ·split at hst
          ·split at hst
           ·simp only [Option.some.injEq] at hst
            subst hst
            have hl:=(stv_ag (v:=v) (f:=fr) (f':=fr) ⟨rfl,rfl,rfl,rfl⟩).2.2.2
            show (stv v fr).2.loc d=none
            rw [hl]
            exact hf.loc
           ·cases hst
          ·cases hst
         ·cases hst
       | mp g o =>
         simp only [stAt] at hst
         split at hst
         ·simp only [Option.bind_eq_some_iff] at hst
          obtain ⟨cs,_,hst⟩:=hst
          split at hst
          ·simp only [Option.some.injEq] at hst
           subst hst
           have hl:=(stv_ag (v:=v) (f:=fr) (f':=fr) ⟨rfl,rfl,rfl,rfl⟩).2.2.2
           show (stv v fr).2.loc d=none
           rw [hl]
           exact hf.loc
          ·cases hst
         ·cases hst
       | _=>simp [stAt] at hst
    ·cases h
  | mv x =>
    simp only [aop,Option.bind_eq_some_iff,Option.some.injEq] at h
    obtain ⟨v,hv,rfl⟩:=h
    exact ⟨hf,fun o e=>nl o x (by rw [hv];exact e)⟩
  | pick c p q =>
    simp only [aop,Option.bind_eq_some_iff,Option.some.injEq] at h
    obtain ⟨cv,_,t,_,v,hv,rfl⟩:=h
    refine ⟨hf,fun o e=>?_⟩
    cases t with
    | true=>exact nl o p (by simp only [if_true] at hv;rw [hv];exact e)
    | false=>exact nl o q (by simp only [Bool.false_eq_true,if_false] at hv;rw [hv];exact e)
  | nck x =>
    simp only [aop,Option.bind_eq_some_iff,Option.some.injEq] at h
    obtain ⟨v,hv,u,hu,rfl⟩:=h
    refine ⟨hf,fun o e=>?_⟩
    simp only [Option.some.injEq] at e
    subst e
    obtain ⟨o',rfl⟩:=nck_loc hu
    exact nl o' x hv
  | fa off x =>
    simp only [aop,Option.bind_eq_some_iff,Option.some.injEq] at h
    obtain ⟨v,hv,u,hu,rfl⟩:=h
    refine ⟨hf,fun o e=>?_⟩
    simp only [Option.some.injEq] at e
    subst e
    obtain ⟨o',rfl⟩:=fa_loc hu
    exact nl o' x hv
  | iaa len sz x i =>
    simp only [aop,Option.bind_eq_some_iff] at h
    obtain ⟨v,hv,iv,_,n,_,h⟩:=h
    split at h
    ·simp only [Option.bind_eq_some_iff,Option.some.injEq] at h
     obtain ⟨u,hu,rfl⟩:=h
     refine ⟨hf,fun o e=>?_⟩
     simp only [Option.some.injEq] at e
     subst e
     obtain ⟨o',rfl⟩:=fa_loc hu
     exact nl o' x hv
    ·cases h
  | app sz b x y =>
    refine ⟨⟨hlo rfl,henv⟩,fun o e=>?_⟩
    simp only [aop,Option.bind_eq_some_iff] at h
    obtain ⟨_,_,_,_,_,_,c,_,h⟩:=h
    cases hc:c.2 with
    | nil=>rw [hc] at h;simp only [appOf,Option.some.injEq] at h;subst h;cases e
    | cons q qs =>
      rw [hc] at h
      simp only [appOf] at h
      split at h
      ·simp only [Option.bind_eq_some_iff,Option.some.injEq] at h
       obtain ⟨_,_,rfl⟩:=h
       cases e
      ·cases h
  | lk kk zz ok m k =>
    refine ⟨⟨hlo rfl,henv⟩,fun o e=>?_⟩
    simp only [aop,Option.bind_eq_some_iff,Option.some.injEq] at h
    obtain ⟨_,_,_,_,_,_,_,_,rfl⟩:=h
    simp only at e
    split at e <;> cases e
  | call f as =>
    refine ⟨⟨hlo rfl,henv⟩,fun o e=>?_⟩
    simp only [aop,Option.bind_eq_some_iff,Option.some.injEq] at h
    obtain ⟨_,_,_,_,_,_,rfl⟩:=h
    simp only [Option.some.injEq] at e
    exact toTV_loc e
  | callq ks f as =>
    refine ⟨⟨hlo rfl,henv⟩,fun o e=>?_⟩
    simp only [aop,Option.bind_eq_some_iff] at h
    obtain ⟨_,_,_,_,_,_,h⟩:=h
    obtain ⟨_,rfl⟩:=qres_some h
    simp only [Option.some.injEq] at e
    exact toTV_loc e
  | alloc lc y =>
    cases lc with
    | true=>cases hb'
    | false =>
      refine ⟨⟨hlo rfl,henv⟩,fun o e=>?_⟩
      simp only [aop,Option.some.injEq] at h
      subst h
      cases e
  | box lc y =>
    cases lc with
    | true=>cases hb'
    | false =>
      refine ⟨⟨hlo rfl,henv⟩,fun o e=>?_⟩
      simp only [aop,Option.bind_eq_some_iff,Option.some.injEq] at h
      obtain ⟨_,_,rfl⟩:=h
      cases e
  | bsl sz ps =>
    refine ⟨⟨hlo rfl,henv⟩,fun o e=>?_⟩
    simp only [aop,Option.bind_eq_some_iff] at h
    obtain ⟨_,_,h⟩:=h
    split at h
    ·simp only [Option.some.injEq] at h;subst h;cases e
    ·cases h
  | peq ng x y =>
    refine ⟨⟨hlo rfl,henv⟩,fun o e=>?_⟩
    simp only [aop,Option.bind_eq_some_iff] at h
    obtain ⟨_,_,_,_,_,_,_,_,h⟩:=h
    split at h
    ·simp only [Option.some.injEq] at h;subst h;cases e
    ·cases h
  | mkm kk =>
    refine ⟨⟨hlo rfl,henv⟩,fun o e=>?_⟩
    simp only [aop,Option.some.injEq] at h
    subst h
    cases e
  | _ =>
    refine ⟨⟨hlo rfl,henv⟩,fun o e=>?_⟩
    simp only [aop,Option.bind_eq_some_iff,Option.some.injEq] at h
    obtain ⟨_,_,h⟩:=h
    first
     | (subst h;cases e;done)
     | (obtain ⟨_,_,h⟩:=h;first
      | (subst h;cases e;done)
      | (obtain ⟨_,_,h⟩:=h;first
       | (subst h;cases e;done)
       | (obtain ⟨_,_,h⟩:=h;first
        | (subst h;cases e;done)
        | (obtain ⟨_,_,h⟩:=h;first
         | (subst h;cases e;done)
         | (obtain ⟨_,_,h⟩:=h;subst h;cases e)))))
theorem ins_fresh {call:Caller} {j:AIns} {d:Nat} {fr fr':Fr} (hf:Fresh d fr) (hd:j.d ≠ some d) (h:ins call j fr=some fr'):Fresh d fr':=by
 have put:∀ (g:Fr) (v:Option TV),Fresh d g → (∀ o,v ≠ some (.loc d o)) → Fresh d (putD g j.d v):=by
  intro g v hg hv
  cases hj:j.d with
  | none=>exact hg
  | some k =>
    refine ⟨hg.loc,fun s o e=>?_⟩
    simp only [putD,upd] at e
    split at e
    ·exact hv o e
    ·exact hg.env s o e
 have hr:∀ fr',run1 call j fr=some fr' → Fresh d fr':=by
  intro fr' h
  simp only [run1,Option.bind_eq_some_iff,Option.some.injEq] at h
  obtain ⟨r,h1,rfl⟩:=h
  obtain ⟨h2,h3⟩:=aop_fresh hf hd h1
  exact put _ _ h2 h3
 unfold ins at h
 split at h
 ·exact hr _ h
 ·simp only [Option.bind_eq_some_iff] at h
  obtain ⟨_,_,b,_,h⟩:=h
  split at h
  ·exact hr _ h
  ·simp only [Option.some.injEq] at h
   subst h
   exact put _ _ hf fun o e=>by simp at e
theorem ins_addL {call:Caller} {j:AIns} {d:Nat} {z:List AV} {fr:Fr} (hf:Fresh d fr) (hr:d ∉ j.rs) (hd:j.d ≠ some d):ins call j (addL d z fr)=(ins call j fr).map (addL d z):=by
 have put:∀ (g:Fr) (v:Option TV),putD (addL d z g) j.d v=addL d z (putD g j.d v):=by
  intro g v
  cases hj:j.d with
  | none=>rfl
  | some k =>
    have hk:k ≠ d:=fun e=>hd (by rw [hj,e])
    refine Fr.ext' ?_ rfl ⟨rfl,rfl,rfl,rfl⟩
    funext s
    simp only [putD,addL,upd]
    by_cases hs:s=d
    ·subst hs;simp [Ne.symm hk]
    ·simp [hs]
 have hrun:run1 call j (addL d z fr)=(run1 call j fr).map (addL d z):=by
  unfold run1
  rw [aop_addL hf (fun m=>hr (mem_r m)) hd]
  cases aop call j.d j.op fr with
  | none=>rfl
  | some r=>simp only [Option.map_some,Option.bind_some,put]
 unfold ins
 cases hg:j.g with
 | none=>exact hrun
 | some q =>
   obtain ⟨s,want⟩:=q
   have hs:s ≠ d:=fun e=>hr (by unfold AIns.rs;rw [hg,e];simp)
   have e:(addL d z fr).env s=fr.env s:=addL_env hs
   simp only [e]
   cases fr.env s with
   | none=>rfl
   | some v =>
     simp only [Option.bind_some]
     cases guardOf v with
     | none=>rfl
     | some b =>
       simp only [Option.bind_some]
       split
       ·exact hrun
       ·simp only [Option.map_some,put]
def alIndep (fs:List Nat) (i j:AIns):Bool :=
 match alOf i with
 | some d=>fs.contains d && !j.rs.contains d && (match j.d with
   | some e=>d != e
   | none=>true)
 | none=>false
def FreshAll (fs:List Nat) (X:Nat → AIns) (S:List Nat) (f:Fr):Prop:=∀ k ∈ S,∀ d,alOf (X k)=some d → d ∈ fs → Fresh d f
theorem comm_al {call:Caller} {fs:List Nat} {i j:AIns} (h:alIndep fs i j=true) {f:Fr} (hf:∀ d,alOf i=some d → d ∈ fs → Fresh d f):(ins call i f).bind (ins call j)=(ins call j f).bind (ins call i):=by
 unfold alIndep at h
 split at h
 ·rename_i d hd
  simp only [Bool.and_eq_true,Bool.not_eq_true',List.contains_eq_mem,decide_eq_true_eq,decide_eq_false_iff_not] at h
  have hF:=hf d hd h.1.1
  have hne:j.d ≠ some d:=by
   intro e
   have:=h.2
   rw [e] at this
   simp at this
  obtain ⟨z,hz⟩:=ins_al (call:=call) hd
  rw [hz f hF]
  simp only [Option.bind_some]
  rw [ins_addL hF h.1.2 hne]
  cases hj:ins call j f with
  | none=>rfl
  | some g =>
    simp only [Option.map_some,Option.bind_some]
    exact (hz g (ins_fresh hF hne hj)).symm
 ·cases h
def qIndep (i j:AIns):Bool :=
 (match i.op,j.op with
 | .ldo rt _ _,.callq ks _ _=>ks.contains rt
 | _,_=>false) &&
 (match i.d with
   | some d=>!j.rs.contains d
   | none=>true) &&
 (match j.d with
   | some d=>!i.rs.contains d
   | none=>true) &&
 (match i.d,j.d with
   | some d,some e=>d != e
   | _,_=>true)
def putO (E:Nat → Option TV) (d:Option Nat) (v:Option TV):Nat → Option TV :=
 match d with
 | some i=>upd E i v
 | none=>E
def evG (E:Nat → Option TV) (g:Option (Nat × Bool)):Option Bool :=
 match g with
 | none=>some true
 | some (s,want)=>(E s).bind fun tv=>(guardOf tv).bind fun y=>some (decide (y=some want))
theorem ins_evG {call:Caller} {i:AIns} {fr:Fr}:ins call i fr=(evG fr.env i.g).bind fun b=>if b then run1 call i fr else some (putD fr i.d (some .und)):=by
 unfold ins evG
 cases i.g with
 | none=>rfl
 | some q =>
   obtain ⟨s,want⟩:=q
   simp only
   cases fr.env s with
   | none=>rfl
   | some tv =>
     simp only [Option.bind_some]
     cases guardOf tv with
     | none=>rfl
     | some y =>
       simp only [Option.bind_some]
       by_cases h:y=some want <;> simp [h]
theorem evG_ag {E E':Nat → Option TV} {g:Option (Nat × Bool)} (h:∀ s w,g=some (s,w) → E s=E' s):evG E g=evG E' g:=by
 cases g with
 | none=>rfl
 | some q=>obtain ⟨s,w⟩:=q;simp only [evG,h s w rfl]
def ldoE (E:Nat → Option TV) (ob:Nat → Option AObj) (rt:Nat) (n:Option Nat) (a:AO):Option TV:=(E rt).bind fun q=>(ev E a).bind fun p=>(ldoAt ob n q p).bind fun v=>some (.val v)
theorem comm_q {call:Caller} {i j:AIns} (h:qIndep i j=true) (f:Fr):(ins call i f).bind (ins call j)=(ins call j f).bind (ins call i):=by
 obtain ⟨di,gi,oi⟩:=i
 obtain ⟨dj,gj,oj⟩:=j
 unfold qIndep at h
 simp only [Bool.and_eq_true] at h
 obtain ⟨⟨⟨hop,h1⟩,h2⟩,h3⟩:=h
 split at hop
 ·rename_i _ _ rt n a ks g as
  have hrt:rt ∈ ks:=by simpa using hop
  have hi:∀ d,di=some d → d ∉ AIns.rs ⟨dj,gj,.callq ks g as⟩:=by
   rintro d rfl;simpa using h1
  have hj:∀ d,dj=some d → d ∉ AIns.rs ⟨di,gi,.ldo rt n a⟩:=by
   rintro d rfl;simpa using h2
  have hij:∀ d,di=some d → dj ≠ some d:=by
   rintro d rfl rfl;simp at h3
  clear h1 h2 h3 hop
  have runI:∀ fr:Fr,run1 call ⟨di,none,.ldo rt n a⟩ fr=(ldoE fr.env fr.sg.ob rt n a).bind fun t=>some (putD fr di (some t)):=by
   intro fr
   simp only [run1,aop,ldoE]
   cases fr.env rt with
   | none=>rfl
   | some q =>
     simp only [Option.bind_some]
     cases ev fr.env a with
     | none=>rfl
     | some p=>simp only [Option.bind_some];cases ldoAt fr.sg.ob n q p <;> rfl
  have rI:∀ fr:Fr,run1 call ⟨di,gi,.ldo rt n a⟩ fr=(ldoE fr.env fr.sg.ob rt n a).bind fun t=>some (putD fr di (some t)):=fun fr=>runI fr
  have envI:∀ (E:Nat → Option TV) (t:Option TV) (s:Nat),s ∈ AIns.rs ⟨dj,gj,.callq ks g as⟩ → putO E di t s=E s:=by
   intro E t s hs
   cases hd:di with
   | none=>rfl
   | some d=>exact upd_ne _ _ fun e=>hi d hd (e ▸ hs)
  have envJ:∀ (E:Nat → Option TV) (t:Option TV) (s:Nat),s ∈ AIns.rs ⟨di,gi,.ldo rt n a⟩ → putO E dj t s=E s:=by
   intro E t s hs
   cases hd:dj with
   | none=>rfl
   | some d=>exact upd_ne _ _ fun e=>hj d hd (e ▸ hs)
  have putE:∀ (fr:Fr) (d:Option Nat) (v:Option TV),putD fr d v={ fr with env:=putO fr.env d v }:=by
   intro fr d v;cases d <;> rfl
  have swap:∀ (E:Nat → Option TV) (t u:Option TV),putO (putO E di t) dj u=putO (putO E dj u) di t:=by
   intro E t u
   cases hdi:di with
   | none=>rfl
   | some d =>
     cases hdj:dj with
     | none=>rfl
     | some e =>
       have hne:e ≠ d:=fun x=>hij d hdi (by rw [hdj,x])
       funext s
       simp only [putO,upd]
       by_cases hs:s=e
       ·subst hs;simp [hne]
       ·simp [hs]
  have gI:∀ (E:Nat → Option TV) (t:Option TV),evG (putO E dj t) gi=evG E gi:=fun E t=>evG_ag fun s w hg=>envJ E t s (by unfold AIns.rs;rw [hg];simp)
  have gJ:∀ (E:Nat → Option TV) (t:Option TV),evG (putO E di t) gj=evG E gj:=fun E t=>evG_ag fun s w hg=>envI E t s (by unfold AIns.rs;rw [hg];simp)
  have lI:∀ (E:Nat → Option TV) (t:Option TV) (ob:Nat → Option AObj),ldoE (putO E dj t) ob rt n a=ldoE E ob rt n a:=by
   intro E t ob
   unfold ldoE
   rw [envJ E t rt (by unfold AIns.rs;simp [AOp.rs])]
   have ea:ev (putO E dj t) a=ev E a:=by
    cases a with
    | t k=>exact envJ E t k (by unfold AIns.rs;simp [AOp.rs,AO.rs])
    | _=>rfl
   rw [ea]
  have lq:∀ (E:Nat → Option TV) (s s':Sg),keeps E s s' ks → ldoE E s'.ob rt n a=ldoE E s.ob rt n a:=by
   intro E s s' hk
   have key:∀ ks:List Nat,keeps E s s' ks → rt ∈ ks → ∃ id off,E rt=some (.val (.ptr id off)) ∧ s'.ob id=s.ob id:=by
    intro ks
    induction ks with
    | nil=>intro _ hm;cases hm
    | cons k ks ih =>
      intro hk hm
      cases hm with
      | head=>exact hk.1
      | tail _ hm=>exact ih hk.2 hm
   obtain ⟨id,off,e1,e2⟩:=key ks hk hrt
   unfold ldoE
   rw [e1]
   simp only [Option.bind_some]
   cases ev E a with
   | none=>rfl
   | some p =>
     simp only [Option.bind_some]
     have e:ldoAt s'.ob n (.val (.ptr id off)) p=ldoAt s.ob n (.val (.ptr id off)) p:=by
      cases p with
      | val v =>
        cases v with
        | ptr i o =>
          simp only [ldoAt]
          by_cases hh:id=i
          ·subst hh;rw [e2]
          ·simp [hh]
        | _=>rfl
      | _=>rfl
     rw [e]
  have cJ:∀ (fr:Fr) (t:Option TV),run1 call ⟨dj,gj,.callq ks g as⟩ { fr with env:=putO fr.env di t }=(run1 call ⟨dj,gj,.callq ks g as⟩ fr).map fun r=>{ r with env:=putO r.env di t }:=by
   intro fr t
   have a1:evV (putO fr.env di t) g=evV fr.env g:=by
    unfold evV
    congr 1
    cases g with
    | t k=>exact envI _ _ k (by unfold AIns.rs;simp [AOp.rs,AO.rs])
    | _=>rfl
   have a2:evVs (putO fr.env di t) as=evVs fr.env as:=evVs_ag (f:={ fr with env:=putO fr.env di t }) (f':=fr) fun s hs=>envI _ _ s (by unfold AIns.rs;simp [AOp.rs,hs])
   have a3:∀ s',keeps (putO fr.env di t) fr.sg s' ks ↔ keeps fr.env fr.sg s' ks:=fun s'=>keeps_ag fun k hk=>envI _ _ k (by unfold AIns.rs;simp [AOp.rs,hk])
   simp only [run1,aop,a1,a2]
   cases evV fr.env g with
   | none=>rfl
   | some p =>
     simp only [Option.bind_some]
     cases evVs fr.env as with
     | none=>rfl
     | some l =>
       simp only [Option.bind_some]
       cases callOf call l fr.sg p with
       | none=>rfl
       | some r =>
         simp only [Option.bind_some,qres]
         by_cases hh:keeps fr.env fr.sg r.2 ks
         ·rw [if_pos hh,if_pos ((a3 r.2).2 hh)]
          simp only [Option.bind_some,Option.map_some,putE,swap]
         ·rw [if_neg hh,if_neg fun x=>hh ((a3 r.2).1 x)]
          rfl
  have kJ:∀ (fr fr':Fr),run1 call ⟨dj,gj,.callq ks g as⟩ fr=some fr' → ∃ t s',fr'={ fr with env:=putO fr.env dj t,sg:=s' } ∧ keeps fr.env fr.sg s' ks:=by
   intro fr fr' hr
   simp only [run1,aop,Option.bind_eq_some_iff,Option.some.injEq] at hr
   obtain ⟨x,⟨p,_,l,_,r,_,hq⟩,rfl⟩:=hr
   obtain ⟨hk,rfl⟩:=qres_some hq
   exact ⟨some (toTV r.1),r.2,by rw [putE],hk⟩
  show ((ins call ⟨di,gi,.ldo rt n a⟩ f).bind fun x=>ins call ⟨dj,gj,.callq ks g as⟩ x)=((ins call ⟨dj,gj,.callq ks g as⟩ f).bind fun x=>ins call ⟨di,gi,.ldo rt n a⟩ x)
  simp only [ins_evG]
  cases hgi:evG f.env gi with
  | none =>
    simp only [Option.bind_none]
    cases hgj:evG f.env gj with
    | none=>rfl
    | some bj =>
      simp only [Option.bind_some]
      cases bj with
      | false=>simp only [Bool.false_eq_true,if_false,Option.bind_some,putE,gI,hgi,Option.bind_none]
      | true =>
        simp only [if_true]
        cases hrj:run1 call ⟨dj,gj,.callq ks g as⟩ f with
        | none=>rfl
        | some fr' =>
          obtain ⟨t,s',rfl,hk⟩:=kJ f fr' hrj
          simp only [Option.bind_some,gI,hgi,Option.bind_none]
  | some bi =>
    simp only [Option.bind_some]
    cases bi with
    | false =>
      simp only [Bool.false_eq_true,if_false,Option.bind_some,putE,gJ]
      cases hgj:evG f.env gj with
      | none=>rfl
      | some bj =>
        simp only [Option.bind_some]
        cases bj with
        | false=>simp only [Bool.false_eq_true,if_false,Option.bind_some,gI,hgi,swap]
        | true =>
          simp only [if_true,cJ]
          cases hrj:run1 call ⟨dj,gj,.callq ks g as⟩ f with
          | none=>rfl
          | some fr' =>
            obtain ⟨t,s',rfl,hk⟩:=kJ f fr' hrj
            simp only [Option.map_some,Option.bind_some,gI,hgi,Bool.false_eq_true,if_false]
    | true =>
      simp only [if_true,rI]
      cases hl:ldoE f.env f.sg.ob rt n a with
      | none =>
        simp only [Option.bind_none]
        cases hgj:evG f.env gj with
        | none=>rfl
        | some bj =>
          simp only [Option.bind_some]
          cases bj with
          | false=>simp only [Bool.false_eq_true,if_false,Option.bind_some,putE,gI,hgi,if_true,lI,hl,Option.bind_none]
          | true =>
            simp only [if_true]
            cases hrj:run1 call ⟨dj,gj,.callq ks g as⟩ f with
            | none=>rfl
            | some fr' =>
              obtain ⟨t,s',rfl,hk⟩:=kJ f fr' hrj
              simp only [Option.bind_some,gI,hgi,if_true,lI,lq f.env f.sg s' hk,hl,Option.bind_none]
      | some u =>
        simp only [Option.bind_some,putE,gJ]
        cases hgj:evG f.env gj with
        | none=>rfl
        | some bj =>
          simp only [Option.bind_some]
          cases bj with
          | false=>simp only [Bool.false_eq_true,if_false,Option.bind_some,gI,hgi,if_true,lI,hl,swap]
          | true =>
            simp only [if_true,cJ]
            cases hrj:run1 call ⟨dj,gj,.callq ks g as⟩ f with
            | none=>rfl
            | some fr' =>
              obtain ⟨t,s',rfl,hk⟩:=kJ f fr' hrj
              simp only [Option.map_some,Option.bind_some,gI,hgi,if_true,lI,lq f.env f.sg s' hk,hl]
 ·cases hop
def indepF (fs:List Nat) (i j:AIns):Bool:=indep i j || alIndep fs i j || alIndep fs j i || qIndep i j || qIndep j i
def uniqAl (fs:List Nat) (l:List AIns) (dm:AIns):Bool :=
 (List.range l.length).all fun k=>match alOf (l.getD k dm) with
   | some d=>!fs.contains d || (List.range l.length).all fun m=>m == k || (match (l.getD m dm).d with
     | some e=>d != e
     | none=>true)
   | none=>true
section
variable {call:Caller} {X:Nat → AIns}
theorem exL_move {fs:List Nat} {m:Nat} (hu:∀ x d,alOf (X m)=some d → d ∈ fs → x ≠ m → (X x).d ≠ some d):∀ (l1 l2:List Nat) (f:Fr),(∀ x ∈ l1,x ≠ m ∧ indepF fs (X m) (X x)=true ∧ ∀ y d,alOf (X x)=some d → d ∈ fs → y ≠ x → (X y).d ≠ some d) → (l1 ++ m :: l2).Nodup → FreshAll fs X (m :: l1) f →
 exL call ((l1 ++ m :: l2).map X) f=exL call ((m :: (l1 ++ l2)).map X) f
 | [],l2,f,_,_,_=>rfl
 | x :: l1,l2,f,h,hnd,hF=>by
   obtain ⟨hxm,hi,hux⟩:=h x (List.mem_cons_self ..)
   have hc:(ins call (X m) f).bind (ins call (X x))=(ins call (X x) f).bind (ins call (X m)):=by
    simp only [indepF,Bool.or_eq_true] at hi
    rcases hi with (((hi | hi) | hi) | hi) | hi
    ·exact comm hi f
    ·exact comm_al hi (fun d=>hF m (List.mem_cons_self ..) d)
    ·exact (comm_al hi (fun d=>hF x (List.mem_cons_of_mem _ (List.mem_cons_self ..)) d)).symm
    ·exact comm_q hi f
    ·exact (comm_q hi f).symm
   have hx1:x ∉ l1:=by
    intro hh
    rw [List.cons_append,List.nodup_cons] at hnd
    exact hnd.1 (List.mem_append_left _ hh)
   have ih:∀ g,ins call (X x) f=some g → exL call ((l1 ++ m :: l2).map X) g=exL call ((m :: (l1 ++ l2)).map X) g:=fun g hg =>
    exL_move hu l1 l2 g (fun y hy=>h y (List.mem_cons_of_mem _ hy)) (List.nodup_cons.1 hnd).2 (by
     intro k hk d hd hdf
     have hkx:k ≠ x:=by
      cases hk with
      | head=>exact fun e=>hxm e.symm
      | tail _ hk=>exact fun e=>hx1 (e ▸ hk)
     have hk':k ∈ m :: x :: l1:=by
      cases hk with
      | head=>exact List.mem_cons_self ..
      | tail _ hk=>exact List.mem_cons_of_mem _ (List.mem_cons_of_mem _ hk)
     refine ins_fresh (hF k hk' d hd hdf) ?_ hg
     cases hk with
     | head=>exact hu x d hd hdf hxm
     | tail _ hk=>exact (h k (List.mem_cons_of_mem _ hk)).2.2 x d hd hdf (Ne.symm hkx))
   show (ins call (X x) f).bind (fun g=>exL call ((l1 ++ m :: l2).map X) g)=(ins call (X m) f).bind fun g=>(ins call (X x) g).bind fun g=>exL call ((l1 ++ l2).map X) g
   have e1:((ins call (X x) f).bind fun g=>exL call ((l1 ++ m :: l2).map X) g)=(ins call (X x) f).bind fun g=>(ins call (X m) g).bind fun g=>exL call ((l1 ++ l2).map X) g:=by
    cases hg:ins call (X x) f with
    | none=>rfl
    | some g=>exact ih g hg
   rw [e1,← Option.bind_assoc,← Option.bind_assoc]
   exact congrArg (fun o=>o.bind fun g=>exL call ((l1 ++ l2).map X) g) hc.symm
theorem reorder {fs:List Nat} {D:Nat → List Nat} {n:Nat} (hx:∀ m x,m < x → x < n → ¬ Anc D x m → indepF fs (X m) (X x)=true) (hu:∀ m x d,m < n → x < n → alOf (X m)=some d → d ∈ fs → x ≠ m → (X x).d ≠ some d) (hz:∀ k,n ≤ k → (X k).d=none ∧ alOf (X k)=none) :
 ∀ (S l:List Nat) (f:Fr),S.Pairwise (· < ·) → (∀ x ∈ S,x < n) → l.Perm S → GoodS D S (fun _=>False) l → FreshAll fs X S f →
 exL call (l.map X) f=exL call (S.map X) f
 | [],l,f,_,_,hp,_,_=>by rw [List.perm_nil.1 hp]
 | m :: S,l,f,hs,hn,hp,hg,hF=>by
   have hml:m ∈ l:=hp.symm.subset (List.mem_cons_self ..)
   obtain ⟨l1,l2,rfl⟩:=List.append_of_mem hml
   have hnd:(l1 ++ m :: l2).Nodup:=hp.symm.nodup (hs.imp fun h=>Nat.ne_of_lt h)
   have hm1:m ∉ l1:=fun h=>by
    have:=List.nodup_append.1 hnd
    exact this.2.2 m h m (List.mem_cons_self ..) rfl
   have hp':(l1 ++ l2).Perm S:=by
    have:(m :: (l1 ++ l2)).Perm (m :: S):=List.perm_middle.symm.trans hp
    exact this.cons_inv
   have hmS:m ∉ S:=fun h=>by
    have:=List.rel_of_pairwise_cons hs h
    omega
   have hna:=GoodS.noAnc (List.mem_cons_self ..) l1 (m :: l2) _ (fun h=>h) hm1 hg
   have hmn:m < n:=hn m (List.mem_cons_self ..)
   have hall:∀ k x d,alOf (X k)=some d → d ∈ fs → x ≠ k → (X x).d ≠ some d:=by
    intro k x d hd hdf hne
    rcases Nat.lt_or_ge k n with hk | hk
    ·rcases Nat.lt_or_ge x n with hxn | hxn
     ·exact hu k x d hk hxn hd hdf hne
     ·rw [(hz x hxn).1];simp
    ·rw [(hz k hk).2] at hd;cases hd
   have hl1S:∀ x ∈ l1,x ∈ S:=fun x hx'=>hp'.subset (List.mem_append_left _ hx')
   rw [exL_move (fs:=fs) (m:=m) (fun x d=>hall m x d) l1 l2 f (fun x hx'=>⟨fun e=>hm1 (e ▸ hx'),hx m x (List.rel_of_pairwise_cons hs (hl1S x hx')) (hn x (List.mem_cons_of_mem _ (hl1S x hx'))) (hna x hx'),fun y d=>hall x y d⟩) hnd
    (by
      intro k hk d hd hdf
      refine hF k ?_ d hd hdf
      cases hk with
      | head=>exact List.mem_cons_self ..
      | tail _ hk=>exact List.mem_cons_of_mem _ (hl1S k hk))]
   simp only [List.map_cons,exL]
   cases hi:ins call (X m) f with
   | none=>rfl
   | some g =>
     simp only [Option.bind_some]
     refine reorder hx hu hz S (l1 ++ l2) g hs.of_cons (fun x h=>hn x (List.mem_cons_of_mem _ h)) hp' (GoodS.drop hmS l1 l2 _ _ (fun _ _ h=>h) hg) ?_
     intro k hk d hd hdf
     refine ins_fresh (hF k (List.mem_cons_of_mem _ hk) d hd hdf) (hall k m d hd hdf (fun e=>hmS (e ▸ hk))) hi
end
def depsOf (ops:Array Oper) (i:Nat):List Nat:=((ops[i]?).map fun o=>(o.after.toList.filter (Region.binds .any)).map (·.on)).getD []
def edgesOk (ops:Array Oper):Bool:=(List.range ops.size).all fun i=>(depsOf ops i).all fun d=>decide (d < i)
theorem edgesOk_lt {ops:Array Oper} (h:edgesOk ops=true) {i d:Nat} (hd:d ∈ depsOf ops i):d < i:=by
 by_cases hi:i < ops.size
 ·have:=List.all_eq_true.1 (List.all_eq_true.1 h i (List.mem_range.2 hi)) d hd
  simpa using this
 ·unfold depsOf at hd
  rw [Array.getElem?_eq_none (by omega)] at hd
  simp at hd
def DirectS (ops:Array Oper):List Nat → Prop
 | []=>True
 | x :: l=>(∀ d ∈ depsOf ops x,d ∈ l) ∧ DirectS ops l
structure LInv (ops:Array Oper) (listed:Array Bool) (acc:List Nat):Prop where
 size:listed.size=ops.size
 lst:∀ i,i < ops.size → (listed.getD i true=true ↔ i ∈ acc)
 nd:acc.Nodup
 lt:∀ i ∈ acc,i < ops.size
 dir:DirectS ops acc
theorem ready_iff {ops:Array Oper} {listed:Array Bool} {acc:List Nat} (h:LInv ops listed acc) {i:Nat} (hi:i < ops.size) (ho:edgesOk ops=true) :
 (!listed.getD i true && ((ops[i]?).map (·.after.all fun e=>!Region.binds .any e || listed.getD e.on false)).getD false)=true ↔ i ∉ acc ∧ ∀ d ∈ depsOf ops i,d ∈ acc:=by
 have e0:ops[i]?=some ops[i]:=Array.getElem?_eq_getElem hi
 have hl:∀ d,d < ops.size → (listed.getD d false=true ↔ d ∈ acc):=by
  intro d hd
  rw [← h.lst d hd]
  simp [Array.getD,h.size,hd]
 rw [e0]
 simp only [Option.map_some,Option.getD_some,Bool.and_eq_true,Bool.not_eq_true',Array.all_eq_true',Bool.or_eq_true]
 constructor
 ·rintro ⟨h1,h2⟩
  refine ⟨fun hm=>?_,fun d hd=>?_⟩
  ·rw [(h.lst i hi).2 hm] at h1;cases h1
  ·have hd':=edgesOk_lt ho hd
   unfold depsOf at hd
   rw [e0] at hd
   simp only [Option.map_some,Option.getD_some,List.mem_map,List.mem_filter,Array.mem_toList_iff] at hd
   obtain ⟨e,⟨he,hb⟩,rfl⟩:=hd
   rcases h2 e he with h3 | h3
   ·rw [hb] at h3;cases h3
   ·exact (hl _ (by omega)).1 h3
 ·rintro ⟨h1,h2⟩
  refine ⟨?_,fun e he=>?_⟩
  ·cases hx:listed.getD i true with
   | false=>rfl
   | true=>exact absurd ((h.lst i hi).1 hx) h1
  ·cases hb:Region.binds .any e with
   | false=>exact .inl rfl
   | true =>
     have hm:e.on ∈ depsOf ops i:=by
      unfold depsOf
      rw [e0]
      simp only [Option.map_some,Option.getD_some,List.mem_map,List.mem_filter,Array.mem_toList_iff]
      exact ⟨e,⟨he,hb⟩,rfl⟩
     have hd':=edgesOk_lt ho hm
     exact .inr ((hl _ (by omega)).2 (h2 _ hm))
theorem LInv.add {ops:Array Oper} {listed:Array Bool} {acc:List Nat} (h:LInv ops listed acc) {i:Nat} (hi:i < ops.size) (h1:i ∉ acc) (h2:∀ d ∈ depsOf ops i,d ∈ acc):LInv ops (listed.setIfInBounds i true) (i :: acc):=by
 refine ⟨by simp [h.size],?_,List.nodup_cons.2 ⟨h1,h.nd⟩,?_,h2,h.dir⟩
 ·intro j hj
  have hjs:j < listed.size:=by rw [h.size];exact hj
  have hj2:j < (listed.setIfInBounds i true).size:=by simpa using hjs
  simp only [Array.getD,hj2,dite_true,List.mem_cons]
  rw [Array.getInternal_eq_getElem,Array.getElem_setIfInBounds hjs]
  by_cases hij:i=j
  ·subst hij;simp
  ·rw [if_neg hij]
   have:=h.lst j hj
   simp only [Array.getD,hjs,dite_true,Array.getInternal_eq_getElem] at this
   rw [this]
   simp [Ne.symm hij]
 ·intro j hj
  cases hj with
  | head=>exact hi
  | tail _ hj=>exact h.lt j hj
theorem len_le:∀ {l m:List Nat},l.Nodup → (∀ x ∈ l,x ∈ m) → l.length ≤ m.length
 | [],_,_,_=>Nat.zero_le _
 | x :: l,m,hl,h=>by
   obtain ⟨m1,m2,rfl⟩:=List.append_of_mem (h x (List.mem_cons_self ..))
   have hx:=List.nodup_cons.1 hl
   have:=len_le (l:=l) (m:=m1 ++ m2) hx.2 fun y hy=>by
    have:=h y (List.mem_cons_of_mem _ hy)
    simp only [List.mem_append,List.mem_cons] at this ⊢
    rcases this with h' | rfl | h'
    ·exact .inl h'
    ·exact absurd hy hx.1
    ·exact .inr h'
   simp only [List.length_append,List.length_cons] at this ⊢
   omega
theorem perm_range {r:List Nat} {n:Nat} (hn:r.Nodup) (hl:∀ i ∈ r,i < n) (hr:r.length=n):r.Perm (List.range n):=by
 refine (List.perm_ext_iff_of_nodup hn List.nodup_range).2 fun i=>⟨fun h=>List.mem_range.2 (hl i h),fun h=>?_⟩
 refine Classical.byContradiction fun hm=>?_
 have:=len_le (l:=i :: r) (m:=List.range n) (List.nodup_cons.2 ⟨hm,hn⟩) fun x hx=>by
  cases hx with
  | head=>exact h
  | tail _ hx=>exact List.mem_range.2 (hl x hx)
 simp at this
 omega
theorem go_inv {ops:Array Oper} (ho:edgesOk ops=true):∀ (fuel t:Nat) (listed:Array Bool) (acc:List Nat),LInv ops listed acc → acc.length + fuel=ops.size →
 ∃ r listed',Region.linearise.go .any ops fuel t listed acc=r.reverse ∧ LInv ops listed' r ∧ r.length=ops.size
 | 0,t,listed,acc,h,hl=>⟨acc,listed,rfl,h,by omega⟩
 | fuel + 1,t,listed,acc,h,hl=>by
   unfold Region.linearise.go
   simp only
   generalize hrs:((List.range ops.size).filter fun i=>!listed.getD i true && ((ops[i]?).map (·.after.all fun e=>!Region.binds .any e || listed.getD e.on false)).getD false)=rs
   have hmem:∀ i,i ∈ rs ↔ i < ops.size ∧ i ∉ acc ∧ ∀ d ∈ depsOf ops i,d ∈ acc:=by
    intro i
    rw [← hrs,List.mem_filter,List.mem_range]
    constructor
    ·rintro ⟨h1,h2⟩;exact ⟨h1,(ready_iff h h1 ho).1 h2⟩
    ·rintro ⟨h1,h2⟩;exact ⟨h1,(ready_iff h h1 ho).2 h2⟩
   have hne:∃ i,i ∈ rs:=by
    have hex:∃ i,i < ops.size ∧ i ∉ acc:=by
     refine Classical.byContradiction fun hno=>?_
     have hall:∀ i,i < ops.size → i ∈ acc:=fun i hi=>Classical.byContradiction fun hm=>hno ⟨i,hi,hm⟩
     have:=len_le (l:=List.range ops.size) (m:=acc) List.nodup_range fun i hi=>hall i (List.mem_range.1 hi)
     simp at this
     omega
    obtain ⟨i,hi,hm⟩:=hex
    induction i using Nat.strongRecOn with
    | _ i ih =>
      by_cases hd:∀ d ∈ depsOf ops i,d ∈ acc
      ·exact ⟨i,(hmem i).2 ⟨hi,hm,hd⟩⟩
      ·simp only [Classical.not_forall] at hd
       obtain ⟨d,hd1,hd2⟩:=hd
       have hlt:=edgesOk_lt ho hd1
       exact ih d hlt (by omega) hd2
   obtain ⟨i0,hi0⟩:=hne
   have hpos:0 < rs.length:=List.length_pos_of_mem hi0
   have hmod:t % rs.length < rs.length:=Nat.mod_lt _ hpos
   rw [List.getElem?_eq_getElem hmod]
   simp only
   have hin:=(hmem _).1 (List.getElem_mem hmod)
   exact go_inv ho fuel _ _ _ (h.add hin.1 hin.2.1 hin.2.2) (by simp;omega)
theorem DirectS.good {ops:Array Oper} {S:List Nat} (ho:edgesOk ops=true):∀ (l:List Nat),DirectS ops l → ∀ x ∈ l,∀ d,Anc (depsOf ops) x d → d ∈ l
 | [],_,x,hx,d,ha=>by cases hx
 | y :: l,h,x,hx,d,ha=>by
   have ih:=DirectS.good (S:=S) ho l h.2
   cases hx with
   | head =>
     refine List.mem_cons_of_mem _ ?_
     cases ha with
     | one hd=>exact h.1 d hd
     | step hd ha=>exact ih _ (h.1 _ hd) d ha
   | tail _ hx=>exact List.mem_cons_of_mem _ (ih x hx d ha)
theorem goodS_rev {ops:Array Oper} (S:List Nat) (ho:edgesOk ops=true):∀ (l:List Nat),DirectS ops l → ∀ (tl:List Nat) , GoodS (depsOf ops) S (fun x=>x ∈ l) tl → GoodS (depsOf ops) S (fun _=>False) (l.reverse ++ tl)
 | [],_,tl,h=>by
   simpa using h
 | y :: l,hd,tl,h=>by
   rw [List.reverse_cons,List.append_assoc]
   refine goodS_rev S ho l hd.2 ([y] ++ tl) ⟨fun d ha _=>?_,?_⟩
   ·cases ha with
    | one hx=>exact hd.1 d hx
    | step hx ha=>exact DirectS.good (S:=S) ho l hd.2 _ (hd.1 _ hx) d ha
   ·refine GoodS.weak (fun d hd=>hd) tl _ _ ?_ h
    intro d _ hm
    exact (List.mem_cons.1 hm)
theorem linearise_good {ops:Array Oper} (ho:edgesOk ops=true) (t:Nat):(Region.linearise .any ops t).Perm (List.range ops.size) ∧ GoodS (depsOf ops) (List.range ops.size) (fun _=>False) (Region.linearise .any ops t):=by
 have h0:LInv ops (Array.replicate ops.size false) []:=⟨by simp,fun i hi=>by simp [Array.getD,hi],by simp,by simp,trivial⟩
 obtain ⟨r,listed',h1,h2,h3⟩:=go_inv ho ops.size t _ [] h0 (by simp)
 have hp:r.Perm (List.range ops.size):=perm_range h2.nd h2.lt h3
 unfold Region.linearise
 rw [h1]
 refine ⟨(List.reverse_perm r).trans hp,?_⟩
 have:=goodS_rev (List.range ops.size) ho r h2.dir [] trivial
 simpa using this
def maskOf (ms:List Nat):List Nat → Nat
 | []=>0
 | d :: ds=>2 ^ d ||| (ms.getD d 0 ||| maskOf ms ds)
def masks:List (List Nat) → List Nat → List Nat
 | [],ms=>ms
 | ds :: r,ms=>masks r (ms ++ [maskOf ms ds])
theorem maskOf_bit {ms:List Nat} {i:Nat}:∀ (ds:List Nat),(maskOf ms ds).testBit i=true → ∃ d ∈ ds,i=d ∨ (ms.getD d 0).testBit i=true
 | [],h=>by simp [maskOf] at h
 | d :: ds,h=>by
   simp only [maskOf,Nat.testBit_or,Bool.or_eq_true] at h
   rcases h with h | h | h
   ·rw [Nat.testBit_two_pow] at h
    exact ⟨d,List.mem_cons_self ..,.inl (by have:=of_decide_eq_true h;exact this.symm)⟩
   ·exact ⟨d,List.mem_cons_self ..,.inr h⟩
   ·obtain ⟨d',h1,h2⟩:=maskOf_bit ds h
    exact ⟨d',List.mem_cons_of_mem _ h1,h2⟩
theorem masks_ok {D:Nat → List Nat}:∀ (L:List (List Nat)) (ms:List Nat),(∀ k,k < L.length → L[k]?=some (D (ms.length + k))) → (∀ j i,((ms.getD j 0).testBit i)=true → Anc D j i) →
 ∀ j i,(((masks L ms).getD j 0).testBit i)=true → Anc D j i
 | [],ms,_,h=>h
 | ds :: r,ms,hL,h=>by
   refine masks_ok r _ ?_ ?_
   ·intro k hk
    have:=hL (k + 1) (by simp;omega)
    simpa [Nat.add_assoc,Nat.add_comm 1 k] using this
   ·intro j i hb
    have h0:ds=D ms.length:=by have:=hL 0 (by simp);simpa using this
    simp only [List.getD_eq_getElem?_getD] at hb
    by_cases hj:j < ms.length
    ·rw [List.getElem?_append_left hj] at hb
     exact h j i (by simpa only [List.getD_eq_getElem?_getD] using hb)
    ·rw [List.getElem?_append_right (by omega)] at hb
     by_cases hj':j=ms.length
     ·subst hj'
      simp only [Nat.sub_self,List.getElem?_cons_zero,Option.getD_some] at hb
      obtain ⟨d,hd,hh⟩:=maskOf_bit ds hb
      rw [h0] at hd
      rcases hh with rfl | hh
      ·exact .one hd
      ·exact .step hd (h d i hh)
     ·rw [List.getElem?_eq_none (by simp;omega)] at hb
      simp at hb
def dummy:AIns:=⟨none,none,.mkm .str⟩
def commOk (ops:Array Oper) (fs:List Nat) (l:List AIns):Bool :=
 edgesOk ops && uniqAl fs l dummy &&
 (let ms:=masks ((List.range ops.size).map (depsOf ops)) []
  (List.range ops.size).all fun j=>(List.range j).all fun i=>(ms.getD j 0).testBit i || indepF fs (l.getD i dummy) (l.getD j dummy))
theorem order_ok {call:Caller} {ops:Array Oper} {fs:List Nat} {l:List AIns} (h:commOk ops fs l=true) (hl:l.length=ops.size) (t:Nat) (f:Fr) :
 exL call ((Region.linearise .any ops t).map fun k=>l.getD k dummy) (f.fresh fs)=exL call l (f.fresh fs):=by
 simp only [commOk,Bool.and_eq_true] at h
 obtain ⟨⟨ho,hq⟩,hc⟩:=h
 obtain ⟨h1,h2⟩:=linearise_good ho t
 have hm:=masks_ok (D:=depsOf ops) ((List.range ops.size).map (depsOf ops)) [] (fun k hk=>by
  simp only [List.length_map,List.length_range] at hk
  simp [List.getElem?_map,List.getElem?_range hk]) (fun j i hb=>by simp at hb)
 rw [reorder (fs:=fs) (D:=depsOf ops) (n:=ops.size) (X:=fun k=>l.getD k dummy) (fun m x hmx hxn hna=>by
  have:=List.all_eq_true.1 (List.all_eq_true.1 hc x (List.mem_range.2 hxn)) m (List.mem_range.2 hmx)
  simp only [Bool.or_eq_true] at this
  rcases this with hb | hb
  ·exact absurd (hm x m hb) hna
  ·exact hb) (fun m x d hmn hxn hd hdf hne=>by
   have:=List.all_eq_true.1 hq m (List.mem_range.2 (by omega))
   rw [show alOf (l.getD m dummy)=some d from hd] at this
   simp only [Bool.or_eq_true,Bool.not_eq_true',List.contains_eq_mem,decide_eq_false_iff_not] at this
   have:=(this.resolve_left (fun hh=>hh hdf))
   have:=List.all_eq_true.1 this x (List.mem_range.2 (by omega))
   simp only [Bool.or_eq_true,beq_iff_eq] at this
   have:=this.resolve_left hne
   intro e
   rw [e] at this
   simp at this) (fun k hk=>by
   have e:l.getD k dummy=dummy:=by rw [List.getD_eq_getElem?_getD,List.getElem?_eq_none (by omega)];rfl
   show (l.getD k dummy).d=none ∧ alOf (l.getD k dummy)=none
   rw [e]
   exact ⟨rfl,rfl⟩) (List.range ops.size) _ _ List.pairwise_lt_range (fun x hx=>List.mem_range.1 hx) h1 h2 (fun k _ d _ hdf=>fresh_of f hdf)]
 congr 1
 apply List.ext_getElem?
 intro k
 rw [List.getElem?_map]
 by_cases hk:k < ops.size
 ·rw [List.getElem?_range hk]
  simp only [Option.map_some,List.getD_eq_getElem?_getD]
  rw [List.getElem?_eq_getElem (by omega)]
  rfl
 ·rw [List.getElem?_eq_none (by simp;omega),List.getElem?_eq_none (by omega)]
  rfl
end Go.Sim
namespace Go.Sim
open Go
def mG (ops:Array Oper):Option (Nat × Bool) → Option (Nat × Bool) → Bool
 | none,none=>true
 | some (s,want),some (j,want')=>((ops[j]?).bind (·.dst)) == some s && want == want'
 | _,_=>false
def mIns (P:Program) (nt:Nat) (ops:Array Oper) (o:Oper) (i:AIns):Bool :=
 i.d == o.dst && (match i.d with
  | some d=>decide (d < nt)
  | none=>true) && mG ops i.g o.guard && mOp P i.op o.op
def mInss (P:Program) (nt:Nat) (ops:Array Oper):List Oper → List AIns → Bool
 | [],[]=>true
 | o :: os,i :: is=>mIns P nt ops o i && mInss P nt ops os is
 | _,_=>false
theorem mInss_get {P:Program} {nt:Nat} {ops:Array Oper}:∀ {os:List Oper} {is:List AIns},mInss P nt ops os is=true → is.length=os.length ∧ ∀ (k:Nat) o,os[k]?=some o → ∃ i,is[k]?=some i ∧ mIns P nt ops o i=true
 | [],[],_=>⟨rfl,fun k o h=>by simp at h⟩
 | [],_ :: _,h=>by simp [mInss] at h
 | _ :: _,[],h=>by simp [mInss] at h
 | o :: os,i :: is,h=>by
   simp only [mInss,Bool.and_eq_true] at h
   obtain ⟨h1,h2⟩:=mInss_get h.2
   refine ⟨by simp [h1],fun k o' hk=>?_⟩
   cases k with
   | zero=>simp at hk;subst hk;exact ⟨i,rfl,h.1⟩
   | succ k=>simpa using h2 k o' (by simpa using hk)
def unS:Code → Code
 | .scope c=>c
 | c=>c
def mC (P:Program) (nt:Nat):AC → Code → Bool
 | .skip,c=>(match c with
   | .skip=>true
   | .label _=>true
   | _=>false)
 | .ret,c=>(match c with
   | .ret=>true
   | _=>false)
 | .exit i,c=>(match c with
   | .exit j=>i == j
   | _=>false)
 | .seq a b,c=>(match c with
   | .seq x y=>mC P nt a (unS x) && mC P nt b (unS y)
   | _=>false)
 | .cond o a b,c=>(match c with
   | .cond o' x y=>mO o o' && mC P nt a x && mC P nt b y
   | _=>false)
 | .block i a,c=>(match c with
   | .block j x=>i == j && mC P nt a x
   | _=>false)
 | .loop a,c=>(match c with
   | .loop x=>mC P nt a x
   | _=>false)
 | .reg l fs _ _,c=>(match c with
   | .region _ ops draw=>mInss P nt ops ops.toList l && (!draw || commOk ops fs l)
   | _=>false)
def exR:Ex → Exit → Prop
 | .norm,.normal=>True
 | .exit i,.exit j=>i=j
 | .ret,.ret=>True
 | _,_=>False
section
variable {P:Program} {w0:World} {G0:Gh} {nt:Nat} {call:Caller}
theorem wp_unS {ex:Ex} {R:Act → World → Prop} {c:Code} {a:Act} {w:World} (h:(unS c).wp P (fun e a' w'=>exR ex e ∧ R a' w') a w):c.wp P (fun e a' w'=>exR ex e ∧ R a' w') a w:=by
 cases c with
 | scope c =>
   refine wp_scope_straight (wp_mono h ?_)
   rintro e a' w' ⟨hr,k⟩
   cases e with
   | goto l=>cases ex <;> exact hr.elim
   | _=>exact ⟨hr,k⟩
 | _=>exact h
theorem put_size (a:Act) (d:Option Nat) (v:Value):(a.put d v).tmps.size=a.tmps.size:=by cases d <;> simp [Act.put]
theorem sim_ops {ops:Array Oper} (hc:CallOK P call) (Q:Exit → Act → World → Prop):∀ (l:List (Nat × AIns)),(∀ p ∈ l,∃ o,ops[p.1]?=some o ∧ mIns P nt ops o p.2=true) →
 ∀ (G:Gh) (fr fr':Fr) (a:Act) (w:World),RR w0 G0 G fr a w → a.tmps.size=nt → exL call (l.map (·.2)) fr=some fr' →
  (∀ G' a' w',RR w0 G0 G' fr' a' w' → a'.tmps.size=nt → Q .normal a' w') → wpOps P ops Q (l.map (·.1)) a w
 | [],_,G,fr,fr',a,w,h,hs,he,hq=>by
   simp only [List.map_nil,exL,Option.some.injEq] at he
   subst he
   exact hq G a w h hs
 | (k,i) :: l,hm,G,fr,fr',a,w,h,hs,he,hq=>by
  obtain ⟨o,ho,hi⟩:=hm (k,i) (List.mem_cons_self ..)
  simp only [mIns,Bool.and_eq_true,beq_iff_eq] at hi
  obtain ⟨⟨⟨hd,hb⟩,hg⟩,hop⟩:=hi
  have hdb:∀ d,o.dst=some d → d < a.tmps.size:=by
   intro d e
   rw [hd,e] at hb
   rw [hs]
   simpa using hb
  simp only [List.map_cons,exL,Option.bind_eq_some_iff] at he
  obtain ⟨fr1,h1,h2⟩:=he
  have rest:∀ G' a' w',RR w0 G0 G' fr1 a' w' → a'.tmps.size=nt → wpOps P ops Q (l.map (·.1)) a' w':=fun G' a' w' hR hsz =>
   sim_ops hc Q l (fun p hp=>hm p (List.mem_cons_of_mem _ hp)) G' fr1 fr' a' w' hR hsz h2 hq
  have hrun:run1 call i fr=some fr1 → o.wp P a w (wpOps P ops Q (l.map (·.1))) Q:=by
   intro hr
   simp only [run1,Option.bind_eq_some_iff,Option.some.injEq] at hr
   obtain ⟨⟨tv,frx⟩,ha,rfl⟩:=hr
   have hgood:=sim_op hc h o i.op hop ha
   unfold Oper.wp
   generalize (execOp a.eval o).run P w=r at hgood ⊢
   cases r with
   | halt hh w'=>exact hgood.elim
   | ok nx w' =>
     cases nx with
     | value v =>
       obtain ⟨G',hR,hv⟩:=hgood
       exact rest G' _ w' (by simp only [hd];exact hR.put hdb hv) (by rw [put_size];exact hs)
     | skip =>
       obtain ⟨rfl,G',hR⟩:=hgood
       exact rest G' _ w' (by simp only [hd];exact hR.put hdb (fun x hx=>by cases hx)) (by rw [put_size];exact hs)
     | defer d =>
       obtain ⟨rfl,G',hR⟩:=hgood
       exact rest G' _ w' (by simp only [hd];exact hR.put (a:={ a with defers:=d :: a.defers }) hdb (fun x hx=>by cases hx)) (by rw [put_size];exact hs)
     | enter f args =>
       refine Calls.mono hgood ?_
       rintro e w'' ⟨v,rfl,G',hR,hv⟩
       exact rest G' _ w'' (by simp only [hd];exact hR.put hdb hv) (by rw [put_size];exact hs)
     | _=>exact hgood.elim
  simp only [List.map_cons,wpOps,ho]
  unfold ins at h1
  cases hig:i.g with
  | none =>
    rw [hig] at h1 hg
    have hw:Region.wanted o (yielded ops a.tmps)=true:=by
     cases hog:o.guard with
     | none=>simp [Region.wanted,hog]
     | some p=>rw [hog] at hg;simp [mG] at hg
    rw [if_pos hw]
    exact .inl (hrun h1)
  | some p =>
    obtain ⟨s,want⟩:=p
    rw [hig] at h1 hg
    cases hog:o.guard with
    | none=>rw [hog] at hg;simp [mG] at hg
    | some q =>
      obtain ⟨j,want'⟩:=q
      rw [hog] at hg
      simp only [mG,Bool.and_eq_true,beq_iff_eq] at hg
      obtain ⟨hj,rfl⟩:=hg
      simp only [Option.bind_eq_some_iff] at h1
      obtain ⟨tv,hv,y0,hbv,h1⟩:=h1
      have he:=h.env s _ hv
      have hy:yielded ops a.tmps j=y0:=by
       have e1:a.tmps[s]?=some (a.tmps.getD s undef):=by rw [Array.getElem?_eq_getElem he.1];exact congrArg some (getD_eq he.1).symm
       have e2:=he.2
       unfold yielded
       rw [hj]
       cases tv with
       | und =>
         simp only [guardOf,Option.some.injEq] at hbv
         subst hbv
         have e3:a.tmps.getD s undef=undef:=e2
         rw [e3] at e1
         simp [e1,undef]
       | val v =>
         cases v with
         | lit q =>
           cases q <;> simp only [guardOf,reduceCtorEq,Option.some.injEq] at hbv
           subst hbv
           simp only [TR,VR] at e2
           rw [e2.1] at e1
           simp [e1]
         | _=>simp [guardOf] at hbv
       | _=>simp [guardOf] at hbv
      have hw:Region.wanted o (yielded ops a.tmps)=decide (y0=some want):=by
       simp only [Region.wanted,hog,hy]
       rw [Bool.eq_iff_iff]
       simp
      split at h1
      ·rename_i e
       rw [if_pos (by rw [hw];simpa using e)]
       exact .inl (hrun h1)
      ·rename_i e
       simp only [Option.some.injEq] at h1
       subst h1
       rw [if_neg (by rw [hw];simpa using e)]
       exact rest G _ w (by rw [hd];exact h.put hdb (fun x hx=>by cases hx;exact rfl)) (by rw [put_size];exact hs)
theorem zip_range (l:List AIns) (n:Nat) (hl:l.length=n):(l.zipIdx.map fun p=>(p.2,p.1)).map (·.1)=List.range n ∧ (l.zipIdx.map fun p=>(p.2,p.1)).map (·.2)=l:=by
 constructor
 ·rw [List.map_map]
  apply List.ext_getElem?
  intro k
  rw [List.getElem?_map,List.getElem?_zipIdx]
  by_cases hk:k < n
  ·rw [List.getElem?_range hk,List.getElem?_eq_getElem (by omega)];simp
  ·rw [List.getElem?_eq_none (l:=List.range n) (by simp;omega),List.getElem?_eq_none (by omega)];rfl
 ·rw [List.map_map]
  apply List.ext_getElem?
  intro k
  rw [List.getElem?_map,List.getElem?_zipIdx]
  cases l[k]? <;> rfl
theorem sim_region (hmix:P.follows .mixedOrders=true) (hc:CallOK P call) {l:List AIns} {fs:List Nat} {id:Nat} {ops:Array Oper} {draw:Bool} (hm:mInss P nt ops ops.toList l=true) (hd:draw=true → commOk ops fs l=true)
 {G:Gh} {fr fr':Fr} {a:Act} {w:World} (h0:RR w0 G0 G fr a w) (hs:a.tmps.size=nt) (he:exL call l (fr.fresh fs)=some fr') {Q:Exit → Act → World → Prop}
 (hq:∀ G' a' w',RR w0 G0 G' fr' a' w' → a'.tmps.size=nt → Q .normal a' w'):(Code.region id ops draw).wp P Q a w:=by
 have h:=h0.fresh fs
 obtain ⟨hl,hg⟩:=mInss_get hm
 have hl':l.length=ops.size:=by simpa using hl
 have hget:∀ (k:Nat) i,l[k]?=some i → ∃ o,ops[k]?=some o ∧ mIns P nt ops o i=true:=by
  intro k i hk
  have hkl:k < l.length:=by
   rcases Nat.lt_or_ge k l.length with h' | h'
   ·exact h'
   ·rw [List.getElem?_eq_none h'] at hk;cases hk
  have ho:ops.toList[k]?=some ops[k]:=by simp [Array.getElem?_eq_getElem (show k < ops.size by omega)]
  obtain ⟨i',h1,h2⟩:=hg k _ ho
  rw [hk] at h1
  cases h1
  exact ⟨_,Array.getElem?_eq_getElem (by omega),h2⟩
 cases draw with
 | false =>
   refine wp_region ?_
   obtain ⟨z1,z2⟩:=zip_range l ops.size hl'
   have:=sim_ops hc Q (l.zipIdx.map fun p=>(p.2,p.1)) (fun p hp=>by
    obtain ⟨q,hq',rfl⟩:=List.mem_map.1 hp
    obtain ⟨i,k⟩:=q
    exact hget k i (by simpa using List.mk_mem_zipIdx_iff_getElem?.1 hq')) G _ fr' a w h hs (by rw [z2];exact he) hq
   rw [z1] at this
   exact this
 | true =>
   refine wp_region_draw fun t=>?_
   have hsch:Region.schedule (P.follows .mixedOrders) ops t=Region.linearise .any ops t:=by simp [Region.schedule,hmix]
   rw [hsch]
   have hord:=order_ok (call:=call) (hd rfl) hl' t fr
   have hp:=(linearise_good (by have:=hd rfl;simp only [commOk,Bool.and_eq_true] at this;exact this.1.1) t).1
   have hR:RR w0 G0 G (fr.fresh fs) a { w with drawn:=w.drawn + 1 }:=h.draws rfl rfl rfl rfl
   have:=sim_ops hc Q ((Region.linearise .any ops t).map fun k=>(k,l.getD k dummy)) (fun p hp'=>by
    obtain ⟨k,hk,rfl⟩:=List.mem_map.1 hp'
    have hk':=List.mem_range.1 (hp.subset hk)
    refine hget k _ ?_
    rw [List.getD_eq_getElem?_getD,List.getElem?_eq_getElem (by omega)]
    rfl) G _ fr' a _ hR hs (by rw [List.map_map];exact hord.trans he) hq
   rw [List.map_map] at this
   have e:(Prod.fst ∘ fun k=>(k,l.getD k dummy))=fun k=>k:=rfl
   rw [e,List.map_id'] at this
   exact this
theorem least {p:Nat → Prop}:∀ n,p n → ∃ m,p m ∧ ∀ k,p k → m ≤ k:=by
 intro n
 induction n using Nat.strongRecOn with
 | _ n ih =>
   intro hn
   by_cases h:∃ m,m < n ∧ p m
   ·obtain ⟨m,h1,h2⟩:=h
    exact ih m h1 h2
   ·refine ⟨n,hn,fun k hk=>?_⟩
    rcases Nat.lt_or_ge k n with h' | h'
    ·exact absurd ⟨k,h',hk⟩ h
    ·exact h'
open Classical in
noncomputable def leastOf (p:Nat → Prop):Nat:=if h:∃ m,p m ∧ ∀ k,p k → m ≤ k then Classical.choose h else 0
theorem leastOf_spec {p:Nat → Prop} {n:Nat} (h:p n):p (leastOf p) ∧ ∀ k,p k → leastOf p ≤ k:=by
 have hx:=least n h
 unfold leastOf
 rw [dif_pos hx]
 exact Classical.choose_spec hx
theorem wp_loop_fuel {c:Code} {Q:Exit → Act → World → Prop} {a:Act} {w:World} (I:Nat → Act → World → Prop) {n:Nat} (h0:I n a w)
 (round:∀ n a w,I n a w → c.wp P (Exit.then (fun a' w'=>∃ m,m < n ∧ I m a' w') Q) a w):(Code.loop c).wp P Q a w:=by
 refine wp_loop (fun a w=>∃ n,I n a w) (fun a w=>leastOf fun n=>I n a w) ⟨n,h0⟩ ?_
 rintro a w ⟨n,hn⟩
 have hl:=leastOf_spec (p:=fun n=>I n a w) hn
 refine wp_mono (round _ a w hl.1) ?_
 intro e a' w' hq
 cases e with
 | normal =>
   obtain ⟨m,hlt,hm⟩:=hq
   exact ⟨⟨m,hm⟩,Nat.lt_of_le_of_lt ((leastOf_spec (p:=fun n=>I n a' w') hm).2 m hm) hlt⟩
 | _=>exact hq
theorem sim_code (hmix:P.follows .mixedOrders=true) (hc:CallOK P call) {lp:Nat}:∀ (ac:AC) (c:Code),mC P nt ac c=true → ∀ (G:Gh) (fr fr':Fr) (a:Act) (w:World) (ex:Ex),
 RR w0 G0 G fr a w → a.tmps.size=nt → aexec call lp ac fr=some (ex,fr') → c.wp P (fun e a' w'=>exR ex e ∧ ∃ G',RR w0 G0 G' fr' a' w' ∧ a'.tmps.size=nt) a w
 | .skip,c,hm,G,fr,fr',a,w,ex,h,hs,he=>by
   simp only [aexec,Option.some.injEq,Prod.mk.injEq] at he
   obtain ⟨rfl,rfl⟩:=he
   simp only [mC] at hm
   split at hm
   ·exact wp_skip ⟨trivial,G,h,hs⟩
   ·exact wp_label ⟨trivial,G,h,hs⟩
   ·cases hm
 | .ret,c,hm,G,fr,fr',a,w,ex,h,hs,he=>by
   simp only [aexec,Option.some.injEq,Prod.mk.injEq] at he
   obtain ⟨rfl,rfl⟩:=he
   simp only [mC] at hm
   split at hm
   ·exact wp_ret ⟨trivial,G,h,hs⟩
   ·cases hm
 | .exit i,c,hm,G,fr,fr',a,w,ex,h,hs,he=>by
   simp only [aexec,Option.some.injEq,Prod.mk.injEq] at he
   obtain ⟨rfl,rfl⟩:=he
   simp only [mC] at hm
   split at hm
   ·simp only [beq_iff_eq] at hm
    exact wp_exit ⟨hm,G,h,hs⟩
   ·cases hm
 | .seq x y,c,hm,G,fr,fr',a,w,ex,h,hs,he=>by
   simp only [aexec,Option.bind_eq_some_iff] at he
   obtain ⟨⟨e1,fr1⟩,h1,h2⟩:=he
   simp only [mC] at hm
   split at hm
   ·simp only [Bool.and_eq_true] at hm
    refine wp_seq (wp_mono (wp_unS (sim_code hmix hc x _ hm.1 G fr fr1 a w e1 h hs h1)) ?_)
    rintro e a' w' ⟨hr,G',hR,hs'⟩
    cases e1 with
    | norm =>
      cases e <;> simp only [exR] at hr
      exact wp_unS (sim_code hmix hc y _ hm.2 G' fr1 fr' a' w' ex hR hs' h2)
    | exit i =>
      simp only [Option.some.injEq,Prod.mk.injEq] at h2
      obtain ⟨rfl,rfl⟩:=h2
      cases e <;> first | exact hr.elim | exact ⟨hr,G',hR,hs'⟩
    | ret =>
      simp only [Option.some.injEq,Prod.mk.injEq] at h2
      obtain ⟨rfl,rfl⟩:=h2
      cases e <;> first | exact hr.elim | exact ⟨hr,G',hR,hs'⟩
   ·cases hm
 | .cond o x y,c,hm,G,fr,fr',a,w,ex,h,hs,he=>by
   simp only [aexec,Option.bind_eq_some_iff] at he
   obtain ⟨v,hv,b,hb,h2⟩:=he
   simp only [mC] at hm
   split at hm
   ·simp only [Bool.and_eq_true] at hm
    have hbool:=asB_R (h.evV hm.1.1 hv) hb
    refine wp_cond hbool ?_
    cases b with
    | true=>exact sim_code hmix hc x _ hm.1.2 G fr fr' a w ex h hs (by simpa using h2)
    | false=>exact sim_code hmix hc y _ hm.2 G fr fr' a w ex h hs (by simpa using h2)
   ·cases hm
 | .block i x,c,hm,G,fr,fr',a,w,ex,h,hs,he=>by
   simp only [aexec,Option.bind_eq_some_iff] at he
   obtain ⟨⟨e1,fr1⟩,h1,h2⟩:=he
   simp only [mC] at hm
   split at hm
   ·rename_i j y
    simp only [Bool.and_eq_true,beq_iff_eq] at hm
    obtain ⟨rfl,hm⟩:=hm
    refine wp_block (wp_mono (sim_code hmix hc x _ hm G fr fr1 a w e1 h hs h1) ?_)
    rintro e a' w' ⟨hr,G',hR,hs'⟩
    cases e1 with
    | norm =>
      simp only [Option.some.injEq,Prod.mk.injEq] at h2
      obtain ⟨rfl,rfl⟩:=h2
      cases e <;> first | exact hr.elim | exact ⟨hr,G',hR,hs'⟩
    | ret =>
      simp only [Option.some.injEq,Prod.mk.injEq] at h2
      obtain ⟨rfl,rfl⟩:=h2
      cases e <;> first | exact hr.elim | exact ⟨hr,G',hR,hs'⟩
    | exit k =>
      cases e <;> simp only [exR] at hr
      subst hr
      simp only at h2
      split at h2
      ·rename_i hk
       simp only [Option.some.injEq,Prod.mk.injEq] at h2
       obtain ⟨rfl,rfl⟩:=h2
       simp only [Exit.inBlock]
       rw [if_pos hk]
       exact ⟨trivial,G',hR,hs'⟩
      ·rename_i hk
       simp only [Option.some.injEq,Prod.mk.injEq] at h2
       obtain ⟨rfl,rfl⟩:=h2
       simp only [Exit.inBlock]
       rw [if_neg hk]
       exact ⟨rfl,G',hR,hs'⟩
   ·cases hm
 | .loop x,c,hm,G,fr,fr',a,w,ex,h,hs,he=>by
   simp only [aexec] at he
   simp only [mC] at hm
   split at hm
   ·rename_i y
    refine wp_loop_fuel (fun n a w=>∃ G fr,RR w0 G0 G fr a w ∧ a.tmps.size=nt ∧ loopN (aexec call lp x) n fr=some (ex,fr')) ⟨G,fr,h,hs,he⟩ ?_
    rintro n a w ⟨G,fr,h,hs,he⟩
    cases n with
    | zero=>simp [loopN] at he
    | succ n =>
      simp only [loopN,Option.bind_eq_some_iff] at he
      obtain ⟨⟨e1,fr1⟩,h1,h2⟩:=he
      refine wp_mono (sim_code hmix hc x _ hm G fr fr1 a w e1 h hs h1) ?_
      rintro e a' w' ⟨hr,G',hR,hs'⟩
      cases e1 with
      | norm =>
        cases e <;> simp only [exR] at hr
        exact ⟨n,by omega,G',fr1,hR,hs',h2⟩
      | exit i =>
        simp only [Option.some.injEq,Prod.mk.injEq] at h2
        obtain ⟨rfl,rfl⟩:=h2
        cases e <;> first | exact hr.elim | exact ⟨hr,G',hR,hs'⟩
      | ret =>
        simp only [Option.some.injEq,Prod.mk.injEq] at h2
        obtain ⟨rfl,rfl⟩:=h2
        cases e <;> first | exact hr.elim | exact ⟨hr,G',hR,hs'⟩
   ·cases hm
 | .reg l fs k kl,c,hm,G,fr,fr',a,w,ex,h,hs,he=>by
   simp only [aexec,Option.bind_eq_some_iff,Option.some.injEq,Prod.mk.injEq] at he
   obtain ⟨fr1,h1,rfl,rfl⟩:=he
   simp only [mC] at hm
   split at hm
   ·rename_i id ops draw
    simp only [Bool.and_eq_true,Bool.or_eq_true,Bool.not_eq_true'] at hm
    exact sim_region hmix hc (fs:=fs) hm.1 (fun e=>hm.2.resolve_left (by rw [e];simp)) h hs h1 fun G' a' w' hR hs'=>⟨trivial,G',hR.keep k kl,hs'⟩
   ·cases hm
def mF (P:Program) (f:Nat) (fn:AFun):Bool :=
 match P.funcs[f]? with
 | some g=>(match g.body with
   | some c=>mC P g.ntmps fn.body c && decide (fn.np ≤ g.ntmps) && decide (g.name ≠ "runtime.NumGoroutine") && mRes fn.res g.results.toList
   | none=>false)
 | none=>false
where
 mRes:List ARes → List ResultVar → Bool
 | [],[]=>true
 | t :: ts,r :: rs=>(match t,r with
   | .t t,.tmp u=>t == u
   | .cell n c,.cell c' ty=>c == c' && mN P ty n
   | _,_=>false) && mRes ts rs
 | _,_=>false
theorem results_run {g:Func} {fr:Fr} {a:Act} {w:World} {G:Gh} (h:RR w0 G0 G fr a w):∀ (ts:List ARes) (rs:List ResultVar) (l:List AV),mF.mRes P ts rs=true → evRs fr ts=some l →
 ∃ vs,(rs.mapM (fun x:ResultVar=>match x with
  | .tmp t=>(pure (a.tmps.getD t undef):Sem Value)
  | .cell c t=>do loadVar t (← asAddr (a.tmps.getD c undef)))).run P w=.ok vs w ∧ VRs G l vs
 | [],[],l,_,he=>by
   simp only [evRs,Option.some.injEq] at he
   subst he
   exact ⟨[],by simp,rfl⟩
 | [],_ :: _,l,hm,he=>by simp [mF.mRes] at hm
 | _ :: _,[],l,hm,he=>by simp [mF.mRes] at hm
 | t :: ts,r :: rs,l,hm,he=>by
   simp only [mF.mRes,Bool.and_eq_true] at hm
   simp only [evRs,Option.bind_eq_some_iff,Option.some.injEq] at he
   obtain ⟨v,hv,l',hl',rfl⟩:=he
   obtain ⟨vs,h1,h2⟩:=results_run (g:=g) h ts rs l' hm.2 hl'
   have hm1:=hm.1
   split at hm1
   ·rename_i t u
    simp only [beq_iff_eq] at hm1
    subst hm1
    refine ⟨a.tmps.getD t undef :: vs,?_,by simp only [VRs];exact ⟨_,_,rfl,(h.env t _ (evV_some hv)).2,h2⟩⟩
    rw [List.mapM_cons]
    simp only [Sem.run_bind,Sem.run_pure,Result.andThen_ok]
    erw [h1]
    rfl
   ·rename_i n c c' ty
    simp only [Bool.and_eq_true,beq_iff_eq] at hm1
    obtain ⟨rfl,hn⟩:=hm1
    simp only [evR,Option.bind_eq_some_iff] at hv
    obtain ⟨p,hp,hv⟩:=hv
    obtain ⟨u,k1,k2⟩:=sim_ld (P:=P) h (x:=.t c) (y:=.tmp c) (by simp [mO]) hn (hf:=true) (by exact hp) hv
    have k3:(do loadVar ty (← asAddr (a.tmps.getD c undef)):Sem Value).run P w=.ok u w:=by
     have e:a.eval (.tmp c)=a.tmps.getD c undef:=rfl
     rw [e] at k1
     revert k1
     cases a.tmps.getD c undef with
     | pointer q=>cases q with
       | none=>intro k1;simp [Instr.loadAt,Instr.sureAddr] at k1
       | some q=>intro k1;simpa [Instr.loadAt,Instr.sureAddr,asAddr] using k1
     | _=>intro k1;simp [Instr.loadAt,Instr.sureAddr] at k1
    refine ⟨u :: vs,?_,by simp only [VRs];exact ⟨_,_,rfl,k2,h2⟩⟩
    rw [List.mapM_cons]
    simp only [Sem.run_bind] at k3 ⊢
    rw [k3]
    simp only [Result.andThen_ok]
    erw [h1]
    rfl
   ·cases hm1
theorem results_ok {g:Func} {fr:Fr} {a:Act} {w:World} {G:Gh} (h:RR w0 G0 G fr a w) {ts:List ARes} {l:List AV} (hm:mF.mRes P ts g.results.toList=true) (he:evRs fr ts=some l) :
 ∃ vs,(results g a.tmps).run P w=.ok (retV vs) w ∧ VRs G l vs:=by
 obtain ⟨vs,h1,h2⟩:=results_run (P:=P) (g:=g) h ts g.results.toList l hm he
 refine ⟨vs,?_,h2⟩
 unfold results
 rw [Array.mapM_eq_mapM_toList]
 simp only [Sem.run_bind,Sem.run_map]
 erw [h1]
 simp only [Result.andThen_ok,Sem.run_pure]
 congr 1
 cases vs with
 | nil=>rfl
 | cons v r =>
   cases r with
   | nil=>rfl
   | cons v2 r=>simp [retV]
end
end Go.Sim
namespace Go.Sim
open Go
def Post (G:Gh) (w:World) (s':Sg) (res:List AV) (e:Ending) (w':World):Prop :=
 ∃ l G',e=.returned (retV l) ∧ WI G' s' w' ∧ Base G' ∧ VRs G' res l ∧ AV.nts res=true ∧ Pres w G G' w'
def CallDOK (P:Program) (call:Caller):Prop :=
 ∀ f args s res s',call f args s=some (res,s') → ∀ G w (vs:List Value),WI G s w → Base G → VRs G args vs → AV.nts args=true →
  Enters P f ∧ CallsD P f vs.toArray .returning w fun e u w'=>u=.returning ∧ Post G w s' res e w'
theorem Pres.refl (w:World) (G:Gh):Pres w G G w:=⟨rfl,rfl,rfl,Nat.le_refl _,fun _ _ h=>⟨rfl,h,fun _=>rfl⟩,Gle.refl G⟩
theorem Pres.trans {w w1 w2:World} {G G1 G2:Gh} (h:Pres w G G1 w1) (k:Pres w1 G1 G2 w2):Pres w G G2 w2:=by
 refine ⟨k.os.trans h.os,k.tape.trans h.tape,k.output.trans h.output,Nat.le_trans h.size k.size,?_,h.le.trans k.le⟩
 intro b hb hf
 obtain ⟨h1,h2,h3⟩:=h.free b hb hf
 obtain ⟨k1,k2,k3⟩:=k.free b (Nat.lt_of_lt_of_le hb h.size) h2
 exact ⟨k1.trans h1,k2,fun o=>(k3 o).trans (h3 o)⟩
theorem Pres.to_base {w w':World} {G G':Gh} (h:Pres w G G' w'):Pres w G G'.base w':=by
 refine ⟨h.os,h.tape,h.output,h.size,?_,h.le.trans base_le⟩
 intro b hb hf
 obtain ⟨h1,h2,h3⟩:=h.free b hb hf
 exact ⟨h1,by rw [base_ow,h2],h3⟩
section
variable {P:Program} {nt:Nat} {call callD:Caller}
theorem RR.start {G:Gh} {w:World} {s:Sg} {args:List AV} {vs:List Value} {n:Nat} (hw:WI G s w) (hB:Base G) (hv:VRs G args vs) (hn:args.length ≤ n) :
 RR w G G (Fr.start args s) { tmps:=vs.toArray ++ Array.replicate (n - vs.toArray.size) undef,defers:=[] } w ∧ (vs.toArray ++ Array.replicate (n - vs.toArray.size) undef).size=n:=by
 have hl:=VRs_length hv
 refine ⟨⟨?_,fun i cs h=>(by cases h),fun i b b' h=>absurd h (hB.loc b i),fun t h=>(by cases h),fun t x h=>(by rw [hB.T t] at h;cases h),hw,rfl,Pres.refl w G⟩,by simp;omega⟩
 intro i tv h
 simp only [Fr.start] at h
 cases ha:args[i]? with
 | none=>rw [ha] at h;cases h
 | some av =>
   rw [ha] at h
   simp only [Option.map_some,Option.some.injEq] at h
   subst h
   obtain ⟨v,h1,h2⟩:=VRs_get hv i av ha
   have hil:i < vs.length:=by
    rcases Nat.lt_or_ge i vs.length with h' | h'
    ·exact h'
    ·rw [List.getElem?_eq_none h'] at h1;cases h1
   have hs:i < (vs.toArray ++ Array.replicate (n - vs.toArray.size) undef).size:=by simp;omega
   refine ⟨hs,?_⟩
   rw [getD_eq hs,Array.getElem_append_left (by simpa using hil)]
   rw [List.getElem?_eq_getElem hil] at h1
   have:vs[i]=v:=Option.some.inj h1
   show VR G av _
   simp only [List.getElem_toArray,this]
   exact h2
theorem leaves_ok (hD:CallDOK P callD) {fn:Func} {tmps:Array Value} {R:Ending → World → Prop}:∀ (df:List (Nat × List AV)) (ds:List Deferred) (s s':Sg) (w:World) (G:Gh),
 DR G df ds → runD callD df s=some s' → WI G s w → Base G →
 (∀ G' w',WI G' s' w' → Base G' → Pres w G G' w' → ∃ v,(results fn tmps).run P w'=.ok v w' ∧ R (.returned v) w') → Leaves P fn tmps R ds .returning w
 | [],ds,s,s',w,G,hd,hr,hw,hB,hR=>by
   simp only [DR] at hd
   subst hd
   simp only [runD,Option.some.injEq] at hr
   subst hr
   exact hR G w hw hB (Pres.refl w G)
 | (f,as) :: r,ds,s,s',w,G,hd,hr,hw,hB,hR=>by
  obtain ⟨d,ds',cap,rfl,ht,hv,hn,hd'⟩:=hd
  simp only [runD,Option.bind_eq_some_iff] at hr
  obtain ⟨⟨res,s1⟩,h1,h2⟩:=hr
  obtain ⟨hen,hcalls⟩:=hD f as s res s1 h1 G w _ hw hB hv hn
  refine ⟨by simp,.func f,cap,f,(d.args ++ cap).toList.toArray,ht,?_,hcalls.mono ?_⟩
  ·rw [ht]
   simp only [invoke,Array.toArray_toList]
   exact run_callFunc hen
  ·rintro e u' w' ⟨rfl,l,G',rfl,q1,q2,q3,q4,q5⟩
   exact leaves_ok hD r ds' s1 s' w' G' (DR_mono q5.le _ _ hd') h2 q1 q2 fun G'' w'' r1 r2 r3=>hR G'' w'' r1 r2 (q5.trans r3)
theorem mF_inv {f:Nat} {fn:AFun} (h:mF P f fn=true):∃ g c,P.funcs[f]?=some g ∧ g.body=some c ∧ mC P g.ntmps fn.body c=true ∧ fn.np ≤ g.ntmps ∧ g.name ≠ "runtime.NumGoroutine" ∧ mF.mRes P fn.res g.results.toList=true:=by
 unfold mF at h
 split at h
 ·rename_i g hg
  split at h
  ·rename_i c hc
   simp only [Bool.and_eq_true,decide_eq_true_eq] at h
   exact ⟨g,c,hg,hc,h.1.1.1,h.1.1.2,h.1.2,h.2⟩
  ·cases h
 ·cases h
theorem fn_ok (hmix:P.follows .mixedOrders=true) (hc:CallOK P call) (hD:CallDOK P callD) {lp:Nat} {f:Nat} {fn:AFun} (hm:mF P f fn=true) {args:List AV} {s s':Sg} {res:List AV}
 (he:runFn call callD lp fn args s=some (res,s')) {G:Gh} {w:World} {vs:List Value} (hw:WI G s w) (hB:Base G) (hv:VRs G args vs) :
 Enters P f ∧ Calls P f vs.toArray w (Post G w s' res):=by
 obtain ⟨g,c,h1,h2,h3,h4,h5,h6⟩:=mF_inv hm
 refine ⟨⟨g,h1,by rw [h2];rfl,h5⟩,?_⟩
 unfold runFn at he
 split at he
 ·rename_i hlen
  simp only [Option.bind_eq_some_iff] at he
  obtain ⟨⟨ex,fr⟩,ha,he⟩:=he
  obtain ⟨hR0,hsz⟩:=RR.start (n:=g.ntmps) hw hB hv (by omega)
  refine calls_of_wp_defers h1 h2 (wp_mono (sim_code hmix hc fn.body c h3 G _ fr _ w ex hR0 hsz ha) ?_)
  rintro e a' w' ⟨hx,G',hR,hs⟩
  have hfin:ex ≠ .norm ∧ ex ≠ .ret ∨ ∃ s1,runD callD fr.df fr.sg=some s1 ∧ ∃ l,evRs { fr with sg:=s1 } fn.res=some l ∧ res=AV.ers l ∧ s'=s1:=by
   cases ex with
   | exit i=>exact .inl ⟨by simp,by simp⟩
   | _ =>
     simp only [Option.bind_eq_some_iff,Option.some.injEq,Prod.mk.injEq] at he
     obtain ⟨s1,e1,l,e2,e3,e4⟩:=he
     exact .inr ⟨s1,e1,l,e2,e3.symm,e4.symm⟩
  rcases hfin with ⟨hn1,hn2⟩ | ⟨s1,r1,l,r2,rfl,rfl⟩
  ·cases ex with
   | exit i=>cases he
   | norm=>exact absurd rfl hn1
   | ret=>exact absurd rfl hn2
  ·have key:Leaves P g a'.tmps (Post G w s' (AV.ers l)) a'.defers .returning w':=by
    refine leaves_ok hD fr.df a'.defers fr.sg s' w' G'.base (DR_mono base_le _ _ hR.df) r1 hR.wi.base base_Base ?_
    intro G'' w'' q1 q2 q3
    obtain ⟨G2,hR2,_,_⟩:=hR.back q1 q2 q3
    obtain ⟨vs',k1,k2⟩:=results_ok (P:=P) hR2 h6 r2
    exact ⟨retV vs',k1,vs',G2.base,rfl,hR2.wi.base,base_Base,VRs_mono' base_le _ _ (.inr (AV.nts_ers l)) (VRs_er _ _ k2),AV.nts_ers l,hR2.pres.to_base⟩
   cases ex with
   | exit i=>cases he
   | norm=>cases e <;> first | exact hx.elim | exact key
   | ret=>cases e <;> first | exact hx.elim | exact key
 ·cases he
theorem fnD_ok (hmix:P.follows .mixedOrders=true) (hc:CallOK P call) {lp:Nat} {f:Nat} {fn:AFun} (hm:mF P f fn=true) {args:List AV} {s s':Sg} {res:List AV}
 (he:runFnD call lp fn args s=some (res,s')) {G:Gh} {w:World} {vs:List Value} (hw:WI G s w) (hB:Base G) (hv:VRs G args vs) :
 Enters P f ∧ CallsD P f vs.toArray .returning w fun e u w'=>u=.returning ∧ Post G w s' res e w':=by
 obtain ⟨g,c,h1,h2,h3,h4,h5,h6⟩:=mF_inv hm
 refine ⟨⟨g,h1,by rw [h2];rfl,h5⟩,?_⟩
 unfold runFnD at he
 split at he
 ·rename_i hlen
  simp only [Option.bind_eq_some_iff] at he
  obtain ⟨⟨ex,fr⟩,ha,he⟩:=he
  obtain ⟨hR0,hsz⟩:=RR.start (n:=g.ntmps) hw hB hv (by omega)
  refine callsD_of_wp h1 h2 (wp_mono (sim_code hmix hc fn.body c h3 G _ fr _ w ex hR0 hsz ha) ?_)
  rintro e a' w' ⟨hx,G',hR,hs⟩
  have hfin:(ex=.norm ∨ ex=.ret) ∧ fr.df=[] ∧ ∃ l,evRs fr fn.res=some l ∧ res=AV.ers l ∧ s'=fr.sg:=by
   simp only at he
   cases ex with
   | exit i=>simp at he
   | _ =>
     cases hdf:fr.df with
     | cons x y=>rw [hdf] at he;simp at he
     | nil =>
       rw [hdf] at he
       simp only [Option.bind_eq_some_iff,Option.some.injEq,Prod.mk.injEq] at he
       obtain ⟨l,e2,e3,e4⟩:=he
       exact ⟨by simp,rfl,l,e2,e3.symm,e4.symm⟩
  obtain ⟨hex,hdf,l,r2,rfl,rfl⟩:=hfin
  have hd0:a'.defers=[]:=by have:=hR.df;rw [hdf] at this;exact this
  have key:a'.defers=[] ∧ ∃ v,(results g a'.tmps).run P w'=.ok v w' ∧ Post G w fr.sg (AV.ers l) (.returned v) w':=by
   obtain ⟨vs',k1,k2⟩:=results_ok (P:=P) hR h6 r2
   exact ⟨hd0,retV vs',k1,vs',G'.base,rfl,hR.wi.base,base_Base,VRs_mono' base_le _ _ (.inr (AV.nts_ers l)) (VRs_er _ _ k2),AV.nts_ers l,hR.pres.to_base⟩
  rcases hex with rfl | rfl
  ·cases e <;> first | exact hx.elim | exact key
  ·cases e <;> first | exact hx.elim | exact key
 ·cases he
def OvOK (P:Program) (f:Nat) (g:List AV → Sg → Option (List AV × Sg)):Prop :=
 ∀ args s res s',g args s=some (res,s') → ∀ G w (vs:List Value),WI G s w → Base G → VRs G args vs → AV.nts args=true → Enters P f ∧ Calls P f vs.toArray w (Post G w s' res)
structure PgOK (P:Program) (p:Pg):Prop where
 mix:P.follows .mixedOrders=true
 fn:∀ f fn,p.fn f=some fn → mF P f fn=true
 ov:∀ f g,p.ov f=some g → OvOK P f g
theorem callN_ok {p:Pg} (h:PgOK P p):∀ n,CallOK P (callN p n) ∧ CallDOK P (callDN p n)
 | 0=>by
   have h0:CallOK P (callN p 0):=fun f args s res s' he=>by simp [callN] at he
   refine ⟨h0,?_⟩
   intro f args s res s' he G w vs hw hB hv hn
   simp only [callDN,Option.bind_eq_some_iff] at he
   obtain ⟨fn,h1,h2⟩:=he
   exact fnD_ok h.mix h0 (h.fn f fn h1) h2 hw hB hv
 | n + 1=>by
   obtain ⟨ih1,ih2⟩:=callN_ok h n
   have hN:CallOK P (callN p (n + 1)):=by
    intro f args s res s' he G w vs hw hB hv hn
    simp only [callN] at he
    split at he
    ·rename_i g hg
     exact h.ov f g hg args s res s' he G w vs hw hB hv hn
    ·simp only [Option.bind_eq_some_iff] at he
     obtain ⟨fn,h1,h2⟩:=he
     exact fn_ok h.mix ih1 ih2 (h.fn f fn h1) h2 hw hB hv
   refine ⟨hN,?_⟩
   intro f args s res s' he G w vs hw hB hv hn
   simp only [callDN,Option.bind_eq_some_iff] at he
   obtain ⟨fn,h1,h2⟩:=he
   exact fnD_ok h.mix hN (h.fn f fn h1) h2 hw hB hv
end
end Go.Sim
namespace Go.Sim
open Go
def Mo {α:Type} (F:Nat → Option α):Prop:=∀ m n r,m ≤ n → F m=some r → F n=some r
theorem Mo.step {α:Type} {F:Nat → Option α} (h:∀ n r,F n=some r → F (n + 1)=some r):Mo F:=by
 intro m n r hmn hm
 induction hmn with
 | refl=>exact hm
 | step _ ih=>exact h _ _ ih
open Classical in
noncomputable def Lim {α:Type} (F:Nat → Option α):Option α:=if h:∃ n r,F n=some r then F (Classical.choose h) else none
theorem Lim_iff {α:Type} {F:Nat → Option α} (hm:Mo F) {r:α}:Lim F=some r ↔ ∃ n,F n=some r:=by
 unfold Lim
 split
 ·rename_i h
  constructor
  ·intro e;exact ⟨_,e⟩
  ·rintro ⟨n,hn⟩
   obtain ⟨r',hr'⟩:=Classical.choose_spec h
   have h1:=hm _ _ _ (Nat.le_max_left n (Classical.choose h)) hn
   have h2:=hm _ _ _ (Nat.le_max_right n (Classical.choose h)) hr'
   rw [h1] at h2
   rw [hr',h2]
 ·rename_i h
  constructor
  ·intro e;cases e
  ·rintro ⟨n,hn⟩;exact absurd ⟨n,r,hn⟩ h
theorem Mo.bind {α β:Type} {F:Nat → Option α} {H:Nat → α → Option β} (hF:Mo F) (hH:∀ x,Mo fun n=>H n x):Mo fun n=>(F n).bind (H n):=by
 intro m n r hmn hm
 simp only [Option.bind_eq_some_iff] at hm ⊢
 obtain ⟨x,h1,h2⟩:=hm
 exact ⟨x,hF m n x hmn h1,hH x m n r hmn h2⟩
def LeC (c c':Caller):Prop:=∀ f a s r,c f a s=some r → c' f a s=some r
theorem aop_le {c c':Caller} (h:LeC c c') {d:Option Nat} {op:AOp} {fr:Fr} {r:Option TV × Fr} (he:aop c d op fr=some r):aop c' d op fr=some r:=by
 cases op with
 | call f as =>
   simp only [aop,Option.bind_eq_some_iff] at he ⊢
   obtain ⟨g,h1,l,h2,x,h3,h4⟩:=he
   refine ⟨g,h1,l,h2,x,?_,h4⟩
   cases g <;> simp only [callOf,reduceCtorEq] at h3 ⊢
   exact h _ _ _ _ h3
 | callq ks f as =>
   simp only [aop,Option.bind_eq_some_iff] at he ⊢
   obtain ⟨g,h1,l,h2,x,h3,h4⟩:=he
   refine ⟨g,h1,l,h2,x,?_,h4⟩
   cases g <;> simp only [callOf,reduceCtorEq] at h3 ⊢
   exact h _ _ _ _ h3
 | alloc lc z=>cases lc <;> exact he
 | box lc x=>cases lc <;> exact he
 | _=>exact he
theorem ins_le {c c':Caller} (h:LeC c c') {i:AIns} {fr fr':Fr} (he:ins c i fr=some fr'):ins c' i fr=some fr':=by
 have hr:∀ fr',run1 c i fr=some fr' → run1 c' i fr=some fr':=by
  intro fr' h1
  simp only [run1,Option.bind_eq_some_iff] at h1 ⊢
  obtain ⟨r,h2,h3⟩:=h1
  exact ⟨r,aop_le h h2,h3⟩
 unfold ins at he ⊢
 cases hg:i.g with
 | none=>rw [hg] at he;exact hr _ he
 | some p =>
   obtain ⟨s,want⟩:=p
   rw [hg] at he
   simp only [Option.bind_eq_some_iff] at he ⊢
   obtain ⟨v,h1,b,h2,h3⟩:=he
   refine ⟨v,h1,b,h2,?_⟩
   split
   ·rename_i e;rw [if_pos e] at h3;exact hr _ h3
   ·rename_i e;rw [if_neg e] at h3;exact h3
theorem exL_le {c c':Caller} (h:LeC c c'):∀ {l:List AIns} {fr fr':Fr},exL c l fr=some fr' → exL c' l fr=some fr'
 | [],fr,fr',he=>he
 | i :: l,fr,fr',he=>by
   simp only [exL,Option.bind_eq_some_iff] at he ⊢
   obtain ⟨x,h1,h2⟩:=he
   exact ⟨x,ins_le h h1,exL_le h h2⟩
theorem loopN_le {b b':Fr → Option (Ex × Fr)} (h:∀ fr r,b fr=some r → b' fr=some r):∀ {n m:Nat} {fr:Fr} {r:Ex × Fr},n ≤ m → loopN b n fr=some r → loopN b' m fr=some r
 | 0,m,fr,r,_,he=>by simp [loopN] at he
 | n + 1,0,fr,r,hm,he=>by omega
 | n + 1,m + 1,fr,r,hm,he=>by
   simp only [loopN,Option.bind_eq_some_iff] at he ⊢
   obtain ⟨x,h1,h2⟩:=he
   refine ⟨x,h _ _ h1,?_⟩
   obtain ⟨e,fr1⟩:=x
   cases e with
   | norm=>exact loopN_le h (by omega) h2
   | _=>exact h2
theorem aexec_le {c c':Caller} (h:LeC c c') {n m:Nat} (hm:n ≤ m):∀ {ac:AC} {fr:Fr} {r:Ex × Fr},aexec c n ac fr=some r → aexec c' m ac fr=some r
 | .skip,fr,r,he=>he
 | .ret,fr,r,he=>he
 | .exit _,fr,r,he=>he
 | .seq a b,fr,r,he=>by
   simp only [aexec,Option.bind_eq_some_iff] at he ⊢
   obtain ⟨x,h1,h2⟩:=he
   refine ⟨x,aexec_le h hm h1,?_⟩
   obtain ⟨e,fr1⟩:=x
   cases e with
   | norm=>exact aexec_le h hm h2
   | _=>exact h2
 | .cond o a b,fr,r,he=>by
   simp only [aexec,Option.bind_eq_some_iff] at he ⊢
   obtain ⟨v,h1,t,h2,h3⟩:=he
   refine ⟨v,h1,t,h2,?_⟩
   cases t with
   | true=>exact aexec_le h hm h3
   | false=>exact aexec_le h hm h3
 | .block i a,fr,r,he=>by
   simp only [aexec,Option.bind_eq_some_iff] at he ⊢
   obtain ⟨x,h1,h2⟩:=he
   exact ⟨x,aexec_le h hm h1,h2⟩
 | .loop b,fr,r,he=>by
   simp only [aexec] at he ⊢
   exact loopN_le (fun fr r hb=>aexec_le h hm hb) hm he
 | .reg l fs k kl,fr,r,he=>by
   simp only [aexec,Option.bind_eq_some_iff] at he ⊢
   obtain ⟨x,h1,h2⟩:=he
   exact ⟨x,exL_le h h1,h2⟩
theorem runD_le {c c':Caller} (h:LeC c c'):∀ {l:List (Nat × List AV)} {s r:Sg},runD c l s=some r → runD c' l s=some r
 | [],s,r,he=>he
 | (f,as) :: l,s,r,he=>by
  simp only [runD,Option.bind_eq_some_iff] at he ⊢
  obtain ⟨x,h1,h2⟩:=he
  exact ⟨x,h _ _ _ _ h1,runD_le h h2⟩
theorem runFnD_le {c c':Caller} (h:LeC c c') {n m:Nat} (hm:n ≤ m) {fn:AFun} {args:List AV} {s:Sg} {r:List AV × Sg} (he:runFnD c n fn args s=some r):runFnD c' m fn args s=some r:=by
 unfold runFnD at he ⊢
 split at he
 ·rename_i hl
  rw [if_pos hl]
  simp only [Option.bind_eq_some_iff] at he ⊢
  obtain ⟨x,h1,h2⟩:=he
  exact ⟨x,aexec_le h hm h1,h2⟩
 ·cases he
theorem runFn_le {c c' d d':Caller} (h:LeC c c') (hd:LeC d d') {n m:Nat} (hm:n ≤ m) {fn:AFun} {args:List AV} {s:Sg} {r:List AV × Sg} (he:runFn c d n fn args s=some r):runFn c' d' m fn args s=some r:=by
 unfold runFn at he ⊢
 split at he
 ·rename_i hl
  rw [if_pos hl]
  simp only [Option.bind_eq_some_iff] at he ⊢
  obtain ⟨x,h1,h2⟩:=he
  refine ⟨x,aexec_le h hm h1,?_⟩
  split at h2
  ·cases h2
  ·simp only [Option.bind_eq_some_iff] at h2 ⊢
   obtain ⟨s',h3,h4⟩:=h2
   exact ⟨s',runD_le hd h3,h4⟩
 ·cases he
theorem callDN_le {p:Pg} {n:Nat} (h:LeC (callN p n) (callN p (n + 1))):LeC (callDN p n) (callDN p (n + 1)):=by
 intro f a s r he
 simp only [callDN,Option.bind_eq_some_iff] at he ⊢
 obtain ⟨fn,h1,h2⟩:=he
 exact ⟨fn,h1,runFnD_le h (Nat.le_succ n) h2⟩
theorem callN_succ {p:Pg}:∀ n,LeC (callN p n) (callN p (n + 1))
 | 0=>fun f a s r he=>by simp [callN] at he
 | n + 1=>by
   have ih:=callN_succ (p:=p) n
   intro f a s r he
   rw [callN] at he ⊢
   split at he
   ·rename_i g hg
    exact he
   ·rename_i hg
    simp only [Option.bind_eq_some_iff] at he ⊢
    obtain ⟨fn,h1,h2⟩:=he
    exact ⟨fn,h1,runFn_le ih (callDN_le ih) (Nat.le_succ n) h2⟩
theorem callN_le {p:Pg} {n m:Nat} (h:n ≤ m):LeC (callN p n) (callN p m):=fun f a s r he=>Mo.step (F:=fun n=>callN p n f a s) (fun n r h=>callN_succ n f a s r h) n m r h he
noncomputable def callL (p:Pg):Caller:=fun f a s=>Lim fun n=>callN p n f a s
theorem callN_mo {p:Pg} {f:Nat} {a:List AV} {s:Sg}:Mo fun n=>callN p n f a s:=fun m n r h he=>callN_le h f a s r he
theorem callL_iff {p:Pg} {f:Nat} {a:List AV} {s:Sg} {r:List AV × Sg}:callL p f a s=some r ↔ ∃ n,callN p n f a s=some r:=Lim_iff callN_mo
noncomputable def aexecW (c:Caller) (ac:AC) (fr:Fr):Option (Ex × Fr):=Lim fun n=>aexec c n ac fr
section
variable {c:Caller}
end
section
variable {p:Pg}
end
end Go.Sim
namespace Go.Sim
open Go
def HL (c:Caller) (l:List AIns) (fr:Fr) (Q:Fr → Prop):Prop:=∃ fr',exL c l fr=some fr' ∧ Q fr'
def EX (c:Caller) (code:AC) (fr:Fr) (Q:Ex → Fr → Prop):Prop:=∃ e fr',aexecW c code fr=some (e,fr') ∧ Q e fr'
def HC (p:Pg) (f:Nat) (args:List AV) (s:Sg) (R:List AV → Sg → Prop):Prop:=∃ res s',callL p f args s=some (res,s') ∧ R res s'
theorem HL.mono {c:Caller} {l:List AIns} {fr:Fr} {Q Q':Fr → Prop} (h:HL c l fr Q) (k:∀ fr,Q fr → Q' fr):HL c l fr Q':=let ⟨x,h1,h2⟩:=h;⟨x,h1,k _ h2⟩
theorem EX.mono {c:Caller} {l:AC} {fr:Fr} {Q Q':Ex → Fr → Prop} (h:EX c l fr Q) (k:∀ e fr,Q e fr → Q' e fr):EX c l fr Q':=let ⟨x,y,h1,h2⟩:=h;⟨x,y,h1,k _ _ h2⟩
theorem HC.mono {p:Pg} {f:Nat} {args:List AV} {s:Sg} {R R':List AV → Sg → Prop} (h:HC p f args s R) (k:∀ r s',R r s' → R' r s'):HC p f args s R':=let ⟨x,y,h1,h2⟩:=h;⟨x,y,h1,k _ _ h2⟩
section
variable {c:Caller} {fr:Fr} {Q:Ex → Fr → Prop}
end
section
variable {c:Caller} {E:Nat → Option TV} {L:Nat → Option (List AV)} {n:Nat} {v:Nat → Bool} {D:List (Nat × List AV)} {S:Sg} {l:List AIns} {Q:Fr → Prop}
theorem kn {α:Type} {e:Nat → Option α}:keepE [] e=fun _=>none:=rfl
theorem ko {α:Type} {e e':Nat → Option α} {k:Nat} {ks:List Nat} (h:e k=none) (h2:keepE ks e=e'):keepE (k :: ks) e=upd e' k none:=by simp only [keepE,h,h2]
theorem h0 (h:Q ⟨E,L,n,v,D,S⟩):HL c [] ⟨E,L,n,v,D,S⟩ Q:=⟨_,rfl,h⟩
theorem hop {i:AIns} {fr fr':Fr} (h:ins c i fr=some fr') (k:HL c l fr' Q):HL c (i :: l) fr Q:=by
 obtain ⟨x,h1,h2⟩:=k
 exact ⟨x,by simp only [exL,h];exact h1,h2⟩
theorem qs {d s:Nat} {b:Bool} {y:Option Bool} {t:TV} {op:AOp} (h:E s=some t) (hy:guardOf t=some y) (hb:y ≠ some b) (k:HL c l ⟨upd E d (some .und),L,n,v,D,S⟩ Q):HL c (⟨some d,some (s,b),op⟩ :: l) ⟨E,L,n,v,D,S⟩ Q :=
 hop (by simp only [ins,h,Option.bind_some,hy,if_neg hb];rfl) k
theorem lc {l t t':List AV} {a:AV} (h:l=a :: t) (k:t=t'):l=a :: t':=by rw [h,k]
theorem hal {d:Nat} {z:List AV} {E':Nat → Option TV} (h1:dropL d E=E') (k:HL c l ⟨upd E' d (some (.loc d 0)),upd L d (some z),n,v,D,S⟩ Q):HL c (⟨some d,none,.alloc true z⟩ :: l) ⟨E,L,n,v,D,S⟩ Q:=by
 subst h1
 exact hop (by simp only [ins,run1,aop,Option.bind_some];rfl) k
theorem hall {d:Nat} {z:List AV} (k:HL c l ⟨upd E d (some (.val (.ptr S.nx 0))),L,n,v,D,S.new (.row z)⟩ Q):HL c (⟨some d,none,.alloc false z⟩ :: l) ⟨E,L,n,v,D,S⟩ Q :=
 hop (by simp only [ins,run1,aop,Option.bind_some];rfl) k
theorem hmu {id:Nat} {kk:KK} {mo ko vo:AO} {m:Value → Option AV} {ka va:AV} {key:Value} (h1:evV E mo=some (.map id)) (h2:evV E ko=some ka) (h3:keyOf kk ka=some key) (h4:evV E vo=some va) (h5:S.ob id=some (.map kk m))
 (k:HL c l ⟨E,L,n,v,D,S.set id (.map kk (mset m key (some va.er)))⟩ Q):HL c (⟨none,none,.mu kk mo ko vo⟩ :: l) ⟨E,L,n,v,D,S⟩ Q:=by
 have hk:KK.same kk kk=true:=by cases kk <;> simp [KK.same]
 exact hop (by simp only [ins,run1,aop,h1,h2,h3,h4,Option.bind_some,mapOf,h5,if_pos hk];rfl) k
theorem hdf {f:AO} {as:List AO} {g:Nat} {a b q q':List AV} (h1:evV E f=some (.fn g a b)) (h2:evVs E as=some q) (h3:AV.ers (a ++ q ++ b)=q') (k:HL c l ⟨E,L,n,v,(g,q') :: D,S⟩ Q):HL c (⟨none,none,.dfr f as⟩ :: l) ⟨E,L,n,v,D,S⟩ Q:=by
 subst h3
 exact hop (by simp only [ins,run1,aop,h1,h2,Option.bind_some,dfrOf];rfl) k
end
structure Ext (s s':Sg):Prop where
 nx:s.nx ≤ s'.nx
 ob:∀ i,i < s.nx → s'.ob i=s.ob i
 gn:s.gn ≤ s'.gn
 gl:∀ g,g < s.gn → s'.gl g=s.gl g
 Q:s'.Q=s.Q
theorem Ext.refl (s:Sg):Ext s s:=⟨Nat.le_refl _,fun _ _=>rfl,Nat.le_refl _,fun _ _=>rfl,rfl⟩
theorem Ext.trans {a b c:Sg} (h:Ext a b) (k:Ext b c):Ext a c :=
 ⟨Nat.le_trans h.nx k.nx,fun i hi=>(k.ob i (Nat.lt_of_lt_of_le hi h.nx)).trans (h.ob i hi),Nat.le_trans h.gn k.gn,fun g hg=>(k.gl g (Nat.lt_of_lt_of_le hg h.gn)).trans (h.gl g hg),k.Q.trans h.Q⟩
theorem Ext.new {s:Sg} {o:AObj}:Ext s (s.new o):=⟨Nat.le_succ _,fun i hi=>by simp [Sg.new,upd,Nat.ne_of_lt hi],Nat.le_refl _,fun _ _=>rfl,rfl⟩
theorem Ext.set {s s':Sg} {i:Nat} {o:AObj} (h:Ext s s') (hi:s.nx ≤ i):Ext s (s'.set i o) :=
 ⟨h.nx,fun j hj=>by simp only [Sg.set];rw [upd_ne _ _ (by omega)];exact h.ob j hj,h.gn,h.gl,h.Q⟩
end Go.Sim
namespace Go.Sim
open Go
section
variable {c:Caller} {E:Nat → Option TV} {L:Nat → Option (List AV)} {n:Nat} {v:Nat → Bool} {D:List (Nat × List AV)} {S:Sg} {l:List AIns} {Q:Fr → Prop}
theorem hsub {d:Nat} {x y:AO} {k:IntKind} {a b r:Int} (h1:evV E x=some (.lit (.int k a))) (h2:evV E y=some (.lit (.int k b))) (h3:k.wrap (a - b)=r) (q:HL c l ⟨upd E d (some (.val (.lit (.int k r)))),L,n,v,D,S⟩ Q) :
 HL c (⟨some d,none,.bin .sub x y⟩ :: l) ⟨E,L,n,v,D,S⟩ Q:=by
 subst h3
 exact hop (by simp only [ins,run1,aop,h1,h2,Option.bind_some,abin,if_true,intOp];rfl) q
end
abbrev I (x:Int):AV:=.lit (.int .i64 x)
abbrev B (b:Bool):AV:=.lit (.bool b)
structure Chg (X:Nat → Prop) (s s':Sg):Prop where
 nx:s.nx ≤ s'.nx
 ob:∀ i,i < s.nx → ¬ X i → s'.ob i=s.ob i
 gn:s.gn ≤ s'.gn
 gl:∀ g,g < s.gn → s'.gl g=s.gl g
 Q:s'.Q=s.Q
theorem Chg.refl {X:Nat → Prop} (s:Sg):Chg X s s:=⟨Nat.le_refl _,fun _ _ _=>rfl,Nat.le_refl _,fun _ _=>rfl,rfl⟩
theorem Chg.trans {X:Nat → Prop} {a b c:Sg} (h:Chg X a b) (k:Chg X b c):Chg X a c :=
 ⟨Nat.le_trans h.nx k.nx,fun i hi hx=>(k.ob i (Nat.lt_of_lt_of_le hi h.nx) hx).trans (h.ob i hi hx),Nat.le_trans h.gn k.gn,fun g hg=>(k.gl g (Nat.lt_of_lt_of_le hg h.gn)).trans (h.gl g hg),k.Q.trans h.Q⟩
theorem Chg.mono {X Y:Nat → Prop} {s s':Sg} (h:Chg X s s') (hXY:∀ i,i < s.nx → X i → Y i):Chg Y s s':=⟨h.nx,fun i hi hy=>h.ob i hi fun hx=>hy (hXY i hi hx),h.gn,h.gl,h.Q⟩
theorem Chg.set {X:Nat → Prop} {s s':Sg} {i:Nat} {o:AObj} (h:Chg X s s') (hi:i < s.nx → X i):Chg X s (s'.set i o) :=
 ⟨h.nx,fun j hj hx=>by
  have hne:j ≠ i:=fun e=>hx (e ▸ hi (e ▸ hj))
  simp only [Sg.set];rw [upd_ne _ _ hne];exact h.ob j hj hx,h.gn,h.gl,h.Q⟩
theorem Chg.new {X:Nat → Prop} {s s':Sg} {o:AObj} (h:Chg X s s'):Chg X s (s'.new o) :=
 ⟨Nat.le_succ_of_le h.nx,fun j hj hx=>by
  have hne:j ≠ s'.nx:=by have:=h.nx;omega
  simp only [Sg.new];rw [upd_ne _ _ hne];exact h.ob j hj hx,h.gn,h.gl,h.Q⟩
theorem Chg.ext {X:Nat → Prop} {s s':Sg} (h:Chg X s s') (hX:∀ i,X i → s.nx ≤ i):Ext s s':=⟨h.nx,fun i hi=>h.ob i hi fun hx=>by have:=hX i hx;omega,h.gn,h.gl,h.Q⟩
end Go.Sim
namespace Go.Sim
open Go
theorem bind_some {α β:Type} {o:Option α} {f:α → Option β} {b:β} (h:o.bind f=some b):∃ a,o=some a ∧ f a=some b:=Option.bind_eq_some_iff.1 h
end Go.Sim
namespace Go.Sim
open Go
section
variable {c:Caller} {l:List AIns} {E:Nat → Option TV} {L:Nat → Option (List AV)} {n:Nat} {v:Nat → Bool} {D:List (Nat × List AV)} {S:Sg} {Q:Fr → Prop}
end
end Go.Sim
namespace Go.Sim
open Go
def cloneF (sz by_:Nat) (m:Bool):AFun:=⟨1,
 .seq (.reg [⟨some 2,none,.mv (.c (.slice .full sz []))⟩] [] [0] [])
  (.seq (.seq (.reg [⟨some 3,none,.mv (.t 0)⟩,⟨some 4,none,.wop (.snl false) [.t 3]⟩] [] [0,4] [])
    (.cond (.t 4) (.seq (.reg [⟨some 2,none,.mv (.c (.slice .full sz []))⟩] [] [2] []) .ret) .skip))
    (.seq (.reg [⟨some 5,none,.bsl sz []⟩,⟨some 6,none,.mv (.t 0)⟩,⟨some 7,none,if m then .wop (.appm sz by_) [.t 5,.t 6] else .app sz by_ (.t 5) (.t 6)⟩,⟨some 2,none,.mv (.t 7)⟩] [] [2] []) .ret)),[.t 2]⟩
def cloneOv (sz by_:Nat) (args:List AV) (s:Sg):Option (List AV × Sg) :=
 match args with
 | [.slice o sz' []]=>if sz'=sz then some ([.slice .full sz []],s) else none
 | [.slice o sz' (x :: xs)]=>if sz'=sz ∧ (xs.length + 1) * by_ ≤ 2 ^ 47 then some ([.slice .none sz (x :: xs)],s) else none
 | [.ms g off len sz']=>if sz'=sz then (if len=0 then some ([.slice .full sz []],s) else (s.mu g).bind fun cs=>if off + len * sz ≤ cs.length ∧ len * by_ ≤ 2 ^ 47 then
    some ([.ms s.mn 0 len sz],{ s with mu:=upd s.mu s.mn (some ((cs.drop off).take (len * sz))),mn:=s.mn + 1 }) else none) else none
 | _=>none
theorem cloneF_s {c d:Caller} {lp sz by_:Nat} {o:Own} {x:AV} {xs:List AV} {s:Sg} (h:(xs.length + 1) * by_ ≤ 2 ^ 47) :
 runFn c d lp (cloneF sz by_ false) [.slice o sz (x :: xs)] s=some ([.slice .none sz (x :: xs)],s):=by
 have h':(xs.length + 1) * by_ ≤ 140737488355328:=h
 simp [runFn,cloneF,aexec,exL,ins,run1,aop,ev,evV,evVs,Fr.start,Fr.fresh,Fr.keep,keepE,upd,putD,TV.v,wopOf,snlOf,asB,sliceOf,appOf,mayApp,runD,evRs,evR,AV.ers,AV.er,h']
theorem cloneF_m {c d:Caller} {lp sz by_:Nat} {g off len:Nat} {cs:List AV} {s:Sg} (h0:len ≠ 0) (hg:s.mu g=some cs) (h1:off + len * sz ≤ cs.length) (h:len * by_ ≤ 2 ^ 47) :
 runFn c d lp (cloneF sz by_ true) [.ms g off len sz] s=some ([.ms s.mn 0 len sz],{ s with mu:=upd s.mu s.mn (some ((cs.drop off).take (len * sz))),mn:=s.mn + 1 }):=by
 have h':len * by_ ≤ 140737488355328:=h
 simp [runFn,cloneF,aexec,exL,ins,run1,aop,ev,evV,evVs,Fr.start,Fr.fresh,Fr.keep,keepE,upd,putD,TV.v,wopOf,snlOf,asB,appmOf,srcOf,runD,evRs,evR,AV.ers,AV.er,h',h0,hg,h1]
theorem clone_ok {P:Program} {f sz by_:Nat} (hmix:P.follows .mixedOrders=true) (hi:mF P f (cloneF sz by_ false)=true) (hm:mF P f (cloneF sz by_ true)=true)
 (hnil:∀ w,Calls P f #[.slice none 0 0] w fun e w'=>e=.returned (.slice none 0 0) ∧ w'=w)
 (hemp:∀ w a c,Calls P f #[.slice (some a) 0 c] w fun e w'=>e=.returned (.slice (some ⟨w.heap.size,0,none⟩) 0 0) ∧ Grew w w'):OvOK P f (cloneOv sz by_):=by
 have hno:CallOK P fun _ _ _=>none:=fun f args s res s' he=>by cases he
 have hnoD:CallDOK P fun _ _ _=>none:=fun f args s res s' he=>by cases he
 have hE:Enters P f:=by
  obtain ⟨g,c,h1,h2,h3,h4,h5,h6⟩:=mF_inv hi
  exact ⟨g,h1,by rw [h2];rfl,h5⟩
 have some0:∀ (G:Gh) (s:Sg) (w:World),WI G s w → Base G → ∀ a c,Calls P f #[.slice (some a) 0 c] w (Post G w s [.slice .full sz []]):=by
  intro G s w hw hB a c
  refine (hemp w a c).mono ?_
  rintro e w' ⟨rfl,hg⟩
  have hR:=(RR.start (n:=0) (args:=[]) (vs:=[]) hw hB rfl (Nat.le_refl 0)).1.grow hg
  refine ⟨[_],G,rfl,hR.wi,hB,?_,rfl,hR.pres⟩
  simp only [VRs]
  refine ⟨_,[],rfl,?_,rfl⟩
  simp only [VR]
  exact ⟨some ⟨w.heap.size,0,none⟩,0,rfl,Nat.le_refl _,by simp,⟨.inl rfl,fun j c hj=>by simp [flat] at hj⟩,rfl⟩
 intro args s res s' he G w vs hw hB hv hn
 unfold cloneOv at he
 split at he
 ·rename_i o sz'
  split at he
  ·rename_i hz
   subst hz
   cases he
   refine ⟨hE,?_⟩
   simp only [VRs] at hv
   obtain ⟨v,r,rfl,hv,rfl⟩:=hv
   simp only [VR] at hv
   obtain ⟨ad,cap,rfl,h1,h2,h3,h4⟩:=hv
   cases ad with
   | none =>
     simp only [lies] at h3
     subst h3
     refine (hnil w).mono ?_
     rintro e w' ⟨rfl,rfl⟩
     refine ⟨[_],G,rfl,hw,hB,?_,rfl,Pres.refl _ _⟩
     simp only [VRs]
     refine ⟨_,[],rfl,?_,rfl⟩
     simp only [VR]
     exact ⟨none,0,rfl,Nat.le_refl _,by simp,rfl,rfl⟩
   | some ad=>exact some0 G s w hw hB ad cap
  ·cases he
 ·rename_i o sz' x xs
  split at he
  ·rename_i hz
   obtain ⟨hz,hl⟩:=hz
   subst hz
   cases he
   exact fn_ok hmix hno hnoD (lp:=0) hi (cloneF_s hl) hw hB hv
  ·cases he
 ·rename_i g off len sz'
  split at he
  ·rename_i hz
   subst hz
   split at he
   ·rename_i h0
    subst h0
    cases he
    refine ⟨hE,?_⟩
    simp only [VRs] at hv
    obtain ⟨v,r,rfl,hv,rfl⟩:=hv
    simp only [VR] at hv
    obtain ⟨b,room,cap,rfl,h1,h2⟩:=hv
    exact some0 G s w hw hB _ cap
   ·rename_i h0
    obtain ⟨cs,hcs,he⟩:=Option.bind_eq_some_iff.1 he
    split at he
    ·rename_i hb
     cases he
     exact fn_ok hmix hno hnoD (lp:=0) hm (cloneF_m h0 hcs hb.1 hb.2) hw hB hv
    ·cases he
  ·cases he
 ·cases he
end Go.Sim
