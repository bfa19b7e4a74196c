/-
  A part of a proof: see the last text of this claim.
-/
import Derived.Test.YtfejjomhjeioaaaGreatDoorPG
import Derived.Test.YtfejjomhjeioaaaGreatDoorProg
set_option linter.unusedVariables false
set_option linter.unusedSimpArgs false
namespace Go.Sim.Kd
open Go Go.Sim
theorem all_ok:tab.all (fun x=>mF Go.Proofs.Tryz.prog x.1 x.2)=true:=by kernel_rfl
end Go.Sim.Kd
