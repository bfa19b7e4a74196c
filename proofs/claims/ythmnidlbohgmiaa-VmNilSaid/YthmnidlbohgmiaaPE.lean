/-
  VmNil returns true, and leaves what was there as it was: the call has no argument; the proof is a simulation of a small machine by the model, and the kernel's own run of that machine.
-/
import Derived.Test.YthmnidlbohgmiaaPD
import Derived.Test.YthmnidlbohgmiaaPF
import Derived.Test.YthmnidlbohgmiaaRows
import Derived.JoinedOf
set_option linter.unusedVariables false
set_option linter.unusedSimpArgs false
namespace Go.Sim.Vm
open Go Go.Sim
theorem laid_ok:laidOutB Go.Proofs.Try.prog=true:=by kernel_rfl
theorem maps_ok:mapsRowed Go.Proofs.Try.prog=true:=by kernel_rfl
theorem slices_ok:((List.range Go.Proofs.Try.prog.types.size).all fun t=>match Go.Proofs.Try.prog.underlying t with
 | some (.slice e)=>decide (0 < Go.Proofs.Try.prog.cellsOf e)
 | _=>true)=true:=by kernel_rfl
theorem slices_pos (t e:TypeId) (ht:t < Go.Proofs.Try.prog.types.size) (h:Go.Proofs.Try.prog.underlying t=some (.slice e)):0 < Go.Proofs.Try.prog.cellsOf e:=by
 have:=List.all_eq_true.1 slices_ok t (List.mem_range.2 ht)
 rw [h] at this
 exact of_decide_eq_true this
theorem own_ok:ownKnob Go.Proofs.Try.prog.godebug=none:=by kernel_rfl
set_option maxRecDepth 1000000 in
theorem nil_run:isTrue (xcallN xp 200 N6_ [] XS.e)=true:=by kernel_rfl
theorem nil_HC:HC p N6_ [] sgE (fun r _=>r=[B true]):=by
 obtain ⟨s',h⟩:=xrun_ok (q:=fun _ _=>none) xp_ok nil_run
 exact ⟨_,s',h,rfl⟩
end Go.Sim.Vm
namespace Go.Proofs.Ythmnidlbohgmiaa
open Go.ChangeShapes Go.WideShapes Go.Sim Go.Sim.Vm
set_option maxRecDepth 100000 in
theorem nil_step (os:Os) (started:os.Started) (H:Type) (enc:TypeId × Value → H) :
 ReturnsInHanded {} Try.checked os 6 .any (Rows.vmNilSpec.pre6 enc Try.prog Try.f6 Rows.vmNilRow.domain false) (Rows.vmNilSpec.post enc Try.prog Try.f6 false true false false):=by
 refine returnsInHanded_of_change (C:=Try.checked) own_ok started (by kernel_rfl) Try.func6
  (ChangeSpec.witness6 (enc:=enc) (C:=Try.checked) false ⟨#[],#[],[]⟩ 8 (by kernel_rfl) (by kernel_rfl) (by kernel_rfl) (by kernel_rfl)) ?_
 intro W base args ds gs before hval hW _ _
 have hW':=hW
 obtain ⟨p,q,hA,hV,rfl,hfz,hnd⟩:=hW
 rw [Try.params6] at hA
 obtain ⟨rfl,rfl⟩:=trodVars_none hV
 obtain ⟨hargs,rfl,rfl⟩:=trodAll_nil hA
 obtain rfl:args=#[]:=by cases args;simp_all
 refine (calls_trueE pg_ok nil_HC (w:=W) (vs:=[]) rfl rfl).mono ?_
 rintro e W' ⟨rfl,hst⟩
 exact ⟨_,rfl,post_true (tb:=4) laid_ok maps_ok slices_pos (by decide +kernel) rfl Try.underlying4 rfl ⟨rfl,rfl,rfl⟩ hW' hst⟩
theorem vmNil_said:Rows.VmNilSaid :=
 OpenClaim.holds_of_wide 6 Try.f6 rfl rfl rfl rfl rfl rfl rfl ⟨rfl,rfl,rfl,rfl,rfl⟩ rfl rfl rfl rfl rfl (by kernel_rfl) Try.func6 (by kernel_rfl)
  (of_decide_eq_true (by kernel_rfl)) (by unfold Func.isWrapper;first | (rw [if_pos (by decide +kernel)];kernel_rfl) | (rw [if_neg (by decide +kernel)];exact ⟨rfl,rfl⟩))
  (fun os started H enc _=>nil_step os started H enc)
end Go.Proofs.Ythmnidlbohgmiaa
