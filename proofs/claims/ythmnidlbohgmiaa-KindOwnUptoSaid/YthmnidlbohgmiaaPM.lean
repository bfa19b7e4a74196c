/-
  KindOwnUptoSaid is proved: where what comes in is of bulk at most 1048576, chiasmuslaw07.KindOwn returns true, and what came in reads as it did.
-/
import Derived.Test.YthmnidlbohgmiaaPK
import Derived.Test.YthmnidlbohgmiaaPI
set_option linter.unusedVariables false
set_option linter.unusedSimpArgs false
namespace Go.Sim.Kd
open Go Go.Sim
theorem laid_ok:laidOutB Go.Proofs.Try.prog=true:=by kernel_rfl
theorem maps_ok:mapsRowed Go.Proofs.Try.prog=true:=by kernel_rfl
theorem slices_ok:((List.range Go.Proofs.Try.prog.types.size).all fun t=>match Go.Proofs.Try.prog.underlying t with
 | some (.slice e)=>decide (0 < Go.Proofs.Try.prog.cellsOf e)
 | _=>true)=true:=by kernel_rfl
theorem slices_pos (t e:TypeId) (ht:t < Go.Proofs.Try.prog.types.size) (h:Go.Proofs.Try.prog.underlying t=some (.slice e)):0 < Go.Proofs.Try.prog.cellsOf e:=by
 have:=List.all_eq_true.1 slices_ok t (List.mem_range.2 ht)
 rw [h] at this
 exact of_decide_eq_true this
theorem own_ok:ownKnob Go.Proofs.Try.prog.godebug=none:=by kernel_rfl
theorem qok0 (g:Nat) (m:Int) (h:g=0):QOK (sg0 g m):=by
 subst h
 rfl
theorem vr_agg {W:World} {l:List AV} {cs:Array Value} (h:RDs W l (Value.agg cs).cells.toList):VR (ghost0 W) (.agg l) (.agg cs) ∧ (AV.agg l).nt=true:=by
 obtain ⟨h1,h2,h3⟩:=h.vrs
 refine ⟨?_,by simpa only [AV.nt] using h2⟩
 simp only [VR]
 exact ⟨cs.toList,by simp,h1,h3⟩
theorem vr_slice {W:World} {a:AV} {x:Option Addr} {len cap:Nat} (h:RDs W [a] (Value.slice x len cap).cells.toList):VR (ghost0 W) a (.slice x len cap) ∧ a.nt=true:=by
 have:=h.2 0 a _ rfl rfl
 exact ⟨this.vr.1,this.vr.2.1⟩
theorem bound {H:Type} {l:List (DataW H)} (hk:Go.Proofs.Ythmnidlbohgmiaa.Rows.uptoSmall H l=true):Go.Proofs.Ythmnidlbohgmiaa.Rows.uptoBulkAll l ≤ 1048576:=of_decide_eq_true hk
end Go.Sim.Kd
namespace Go.Proofs.Ythmnidlbohgmiaa
open Go.ChangeShapes Go.WideShapes Go.Sim Go.Sim.Kd
end Go.Proofs.Ythmnidlbohgmiaa
namespace Go.Sim.Kd
open Go Go.Sim
theorem okWide_arr {P:Program} {w:World} {r:Reach} {base n:Nat} {t e:TypeId} {v:Value} (ht:P.underlying t=some (.array n e)) (h:Value.okWide P w r base t v):∃ cs,v=.agg cs:=by
 unfold Value.okWide at h
 rw [ht] at h
 obtain ⟨cs,h1,_⟩:=h
 exact ⟨cs,h1⟩
theorem nts_cons {a:AV} {l:List AV} (h:a.nt=true) (k:AV.nts l=true):AV.nts (a :: l)=true:=by
 simp only [AV.nts,h,k]
 rfl
end Go.Sim.Kd
namespace Go.Proofs.Ythmnidlbohgmiaa
open Go.ChangeShapes Go.WideShapes Go.Sim Go.Sim.Kd
set_option maxRecDepth 100000 in
theorem own_args {H:Type} {enc:TypeId × Value → H} (W:World) (base:Nat) (args:Array Value) (ds gs:List (DataW H)) (before:List MemPlace)
 (hval:∀ (j:Nat) t v,Try.f5.params[j]?=some t → args[j]?=some v → Value.okWide Try.prog W .any base t v)
 (hW:DataW.Whole enc Try.prog Try.f5.params.toList Rows.kindOwnSpec.vars false W args.toList ds gs before) (hk:Rows.uptoSmall H (ds ++ gs)=true) :
 gs=[] ∧ (∃ d0 d1 d2 d3 d4,ds=[d0,d1,d2,d3,d4]) ∧ ∃ (c:Core) (xs ys g0 g1:List Int) (nd:Go.Sim.Node),c.sz ≤ 2 ^ 30 ∧ xs.length ≤ 2 ^ 30 ∧ ys.length ≤ 2 ^ 30 ∧ g0.length ≤ 2 ^ 30 ∧ g1.length ≤ 2 ^ 30 ∧ nd.sz ≤ 2 ^ 30 ∧
  VRs (ghost0 W) [.agg (Core.cs c),ints xs,ints ys,.agg [ints g0,ints g1],.agg nd.cs] args.toList ∧ AV.nts [.agg (Core.cs c),ints xs,ints ys,.agg [ints g0,ints g1],.agg nd.cs]=true:=by
 obtain ⟨p,q,hA,hV,rfl,hfz,hnd⟩:=hW
 rw [Try.params5] at hA hval
 obtain ⟨rfl,rfl⟩:=trodVars_none hV
 have hb:=bound hk
 obtain ⟨v0,vs0,d0,ds0,p0,q0,hargs,rfl,rfl,⟨n0,h0⟩,r0⟩:=trodAll_cons hA
 obtain ⟨v1,vs1,d1,ds1,p1,q1,rfl,rfl,rfl,⟨n1,h1⟩,r1⟩:=trodAll_cons r0
 obtain ⟨v2,vs2,d2,ds2,p2,q2,rfl,rfl,rfl,⟨n2,h2⟩,r2⟩:=trodAll_cons r1
 obtain ⟨v3,vs3,d3,ds3,p3,q3,rfl,rfl,rfl,⟨n3,h3⟩,r3⟩:=trodAll_cons r2
 obtain ⟨v4,vs4,d4,ds4,p4,q4,rfl,rfl,rfl,⟨n4,h4⟩,r4⟩:=trodAll_cons r3
 obtain ⟨rfl,rfl,rfl⟩:=trodAll_nil r4
 obtain rfl:args=#[v0,v1,v2,v3,v4]:=by cases args;simp_all
 obtain ⟨c,c1,c2⟩:=rdCore n0 n0 (Nat.le_refl _) _ _ h0
 obtain ⟨xs,x1,x2⟩:=rdInts n1 n1 (Nat.le_refl _) _ _ h1
 obtain ⟨ys,y1,y2⟩:=rdInts n2 n2 (Nat.le_refl _) _ _ h2
 obtain ⟨g,g1,g2⟩:=rdPair n3 n3 (Nat.le_refl _) _ _ h3
 obtain ⟨nd,k1,k2⟩:=rdNode n4 n4 (Nat.le_refl _) _ _ h4
 obtain ⟨cs,rfl,_⟩:=okWide_struct Try.underlying25 (hval 0 25 v0 rfl rfl)
 obtain ⟨a1,b1,l1,rfl⟩:=okWide_slice Try.underlying31 (hval 1 31 v1 rfl rfl)
 obtain ⟨a2,b2,l2,rfl⟩:=okWide_slice Try.underlying31 (hval 2 31 v2 rfl rfl)
 obtain ⟨cs3,rfl⟩:=okWide_arr Try.underlying32 (hval 3 32 v3 rfl rfl)
 obtain ⟨cs4,rfl,_⟩:=okWide_struct Try.underlying36 (hval 4 36 v4 rfl rfl)
 obtain ⟨e0,f0⟩:=vr_agg c1
 obtain ⟨e1,f1⟩:=vr_slice x1
 obtain ⟨e2,f2⟩:=vr_slice y1
 obtain ⟨e3,f3⟩:=vr_agg g1
 obtain ⟨e4,f4⟩:=vr_agg k1
 simp only [List.append_nil,Rows.uptoBulkAll] at hb
 dsimp only at c2 x2 y2 g2 k2
 refine ⟨rfl,⟨_,_,_,_,_,rfl⟩,c,xs,ys,g.1,g.2,nd,by omega,by omega,by omega,by omega,by omega,by omega,?_,?_⟩
 ·simp only [VRs]
  exact ⟨_,_,rfl,e0,_,_,rfl,e1,_,_,rfl,e2,_,_,rfl,e3,_,_,rfl,e4,rfl⟩
 ·exact nts_cons f0 (nts_cons f1 (nts_cons f2 (nts_cons f3 (nts_cons f4 rfl))))
set_option maxRecDepth 100000 in
theorem own_step (os:Os) (started:os.Started) (H:Type) (enc:TypeId × Value → H) (F:Stop.Interp) :
 ReturnsInHanded {} Try.checked os 5 .any ((Rows.OpenSpec.upto Rows.kindOwnSpec).pre6 enc Try.prog Try.f5 Rows.kindOwnUptoRow.domain false) (((Rows.OpenSpec.upto Rows.kindOwnSpec).at F).post enc Try.prog Try.f5 false true false false):=by
 refine step_shaped (C:=Try.checked) (s:=Rows.OpenSpec.upto Rows.kindOwnSpec) (k:=Rows.uptoSmall) rfl own_ok started (by kernel_rfl) Try.func5
  (OpenSpec.witness (enc:=enc) (C:=Try.checked) (s:=Rows.OpenSpec.upto Rows.kindOwnSpec) (k:=Rows.uptoSmall) rfl false ⟨#[],#[.agg #[.slice none 0 0,.slice none 0 0],.slice none 0 0,.slice none 0 0,.agg #[.slice none 0 0,.slice none 0 0],.agg #[.int .i64 0,.int .i64 0,.int .i64 0,.slice none 0 0,.slice none 0 0]],[]⟩ 8 (by kernel_rfl) (by kernel_rfl) (by kernel_rfl)
    (x:=([.agg [.nil,.nil],.nil,.nil,.agg [.nil,.nil],.agg [.lit (.int .i64 0),.lit (.int .i64 0),.lit (.int .i64 0),.nil,.nil]],[],[])) (by kernel_rfl) rfl (by kernel_rfl)) ?_
 intro W base args ds gs before hsh hval hW hk
 obtain ⟨m,hm⟩:=maxLen_cell W hsh
 obtain ⟨rfl,⟨d0,d1,d2,d3,d4,rfl⟩,c,xs,ys,g0,g1,nd,z0,z1,z2,z3,z4,z5,hv,hn⟩:=own_args W base args ds gs before hval hW hk
 refine (calls_true pg_ok (KindOwn_c (sg0 _ m) (qok0 _ m rfl) c xs ys g0 g1 nd z0 z1 z2 z3 z4 z5) hm hv hn).mono ?_
 rintro e W' ⟨rfl,hst⟩
 exact ⟨_,rfl,post_true (tb:=4) laid_ok maps_ok slices_pos (by decide +kernel) rfl Try.underlying4 rfl ⟨rfl,rfl,rfl⟩ hW hst⟩
theorem kindOwn_upto:Rows.KindOwnUptoSaid :=
 OpenClaim.holds_of_cond 5 Try.f5 rfl rfl rfl rfl rfl rfl rfl ⟨rfl,rfl,rfl,rfl,rfl⟩ rfl rfl rfl rfl rfl (by kernel_rfl) Try.func5 (by kernel_rfl)
  (of_decide_eq_true (by kernel_rfl)) (by unfold Func.isWrapper;first | (rw [if_pos (by decide +kernel)];kernel_rfl) | (rw [if_neg (by decide +kernel)];exact ⟨rfl,rfl⟩))
  (fun os started H enc _ F=>own_step os started H enc F)
end Go.Proofs.Ythmnidlbohgmiaa
