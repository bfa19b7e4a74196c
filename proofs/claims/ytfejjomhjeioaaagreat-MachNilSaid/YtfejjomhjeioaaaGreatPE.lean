/-
  A part of a proof: see the last text of this claim.
-/
import Derived.Test.YtfejjomhjeioaaaGreatPD
import Derived.Test.YtfejjomhjeioaaaGreatPC
set_option linter.unusedVariables false
set_option linter.unusedSimpArgs false
namespace Go.Sim.Mn
open Go Go.Sim
def oneA:AV:=.agg [.slice .none 3 [],.slice .none 8 [.agg [.lit (.string ⟨#[109,97,105,110]⟩),.slice .none 2 [.agg [.lit (.int .i64 0),.lit (.bool false)]],.slice .none 1 [.lit (.int .i64 0)],.lit (.int .i64 9),.lit (.int .i64 0),.lit (.int .i64 0),.slice .none 5 [.agg [.lit (.int .i64 3),.lit (.int .i64 0),.lit (.int .i64 0),.slice .none 5 [.agg [.lit (.int .i64 10),.lit (.int .i64 0),.lit (.int .i64 0),.slice .none 5 [.agg [.lit (.int .i64 0),.lit (.int .i64 0),.lit (.int .i64 0),.slice .none 5 [],.slice .none 7 []],.agg [.lit (.int .i64 1),.lit (.int .i64 1),.lit (.int .i64 0),.slice .none 5 [],.slice .none 7 []],.agg [.lit (.int .i64 5),.lit (.int .i64 0),.lit (.int .i64 0),.slice .none 5 [],.slice .none 7 []]],.slice .none 7 []]],.slice .none 7 []],.agg [.lit (.int .i64 7),.lit (.int .i64 1),.lit (.int .i64 0),.slice .none 5 [.agg [.lit (.int .i64 14),.lit (.int .i64 0),.lit (.int .i64 0),.slice .none 5 [.agg [.lit (.int .i64 0),.lit (.int .i64 1),.lit (.int .i64 0),.slice .none 5 [],.slice .none 7 []]],.slice .none 7 []]],.slice .none 7 []]],.slice .none 7 []]]]
def focR:List AV:=[oneA,.lit (.int .i64 0)]
set_option maxRecDepth 1000000 in
theorem focus_run:isRes focR (xcallN xp 400 N34_ [oneA] XS.e)=true:=by kernel_rfl
def focOv (args:List AV) (s:Sg):Option (List AV × Sg):=if beqL (beqA dp) args [oneA]=true ∧ hasInt (s.Q 0 0)=true then some (focR,s) else none
def xfocOv (args:List AV) (s:XS):Option (List AV × XS):=match beqL (beqA dp) args [oneA] with
 | true=>some (focR,s)
 | false=>none
noncomputable def ovB (n:Nat):Option (List AV → Sg → Option (List AV × Sg)):=if n=N34_ then some focOv else if n=N24_ then some (leafF F24_) else ov n
noncomputable def xovB (n:Nat):Option (List AV → XS → Option (List AV × XS)):=match Nat.beq n N34_ with
 | true=>some xfocOv
 | false=>(match Nat.beq n N24_ with
   | true=>some (xleafF F24_)
   | false=>xov n)
noncomputable def pB:Pg:=⟨fnOf,ovB⟩
noncomputable def xpB:XPg:=⟨fnOf,xovB⟩
theorem xpB_ok (m:Int):XPOK (qm m) xpB pB:=by
 have h0:=xp_ok m
 refine ⟨fun f=>rfl,fun f h=>?_,fun f g h=>?_,h0.kq⟩
 ·have h:xovB f=none:=h
  show ovB f=none
  unfold xovB at h
  unfold ovB
  by_cases e:f=N34_
  ·subst e
   rw [beq_self] at h
   cases h
  ·rw [beq_ne e] at h
   rw [if_neg e]
   by_cases e:f=N24_
   ·subst e
    rw [beq_self] at h
    cases h
   ·rw [beq_ne e] at h
    rw [if_neg e]
    exact h0.ovn f h
 ·have h:xovB f=some g:=h
  show ∃ g',ovB f=some g' ∧ _
  unfold xovB at h
  unfold ovB
  by_cases e:f=N34_
  ·subst e
   rw [beq_self] at h
   cases h
   rw [if_pos rfl]
   refine ⟨_,rfl,fun a s r h=>?_⟩
   unfold xfocOv at h
   unfold focOv
   split at h
   ·rename_i hb
    cases h
    have hQ:hasInt ((toSg (qm m) s).Q 0 0)=true:=by
     show hasInt (qm m 0 0)=true
     unfold qm
     rw [if_pos ⟨rfl,rfl⟩]
     rfl
    rw [if_pos ⟨hb,hQ⟩]
   ·cases h
  ·rw [beq_ne e] at h
   rw [if_neg e]
   by_cases e:f=N24_
   ·subst e
    rw [beq_self] at h
    cases h
    rw [if_pos rfl]
    exact ⟨_,rfl,fun a s r h=>xleafF_ok h0.kq h⟩
   ·rw [beq_ne e] at h
    rw [if_neg e]
    exact h0.ov f g h
end Go.Sim.Mn
