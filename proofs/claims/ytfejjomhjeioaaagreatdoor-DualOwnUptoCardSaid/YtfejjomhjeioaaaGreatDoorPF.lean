/-
  A part of a proof: see the last text of this claim.
-/
import Derived.Test.YtfejjomhjeioaaaGreatDoorPD
import Derived.Test.YtfejjomhjeioaaaGreatDoorPC
set_option linter.unusedVariables false
set_option linter.unusedSimpArgs false
namespace Go.Sim.Du
open Go Go.Sim
set_option maxRecDepth 1000000 in
theorem awake_run:isRes [.lit (.bool true)] (xcallN xp 400 N7_ [] XS.e)=true:=by kernel_rfl
end Go.Sim.Du
