/-
  A part of a proof: see the last text of this claim.
-/
import Derived.Test.YtfejjomhjeioaaaGreatPE
set_option linter.unusedVariables false
set_option linter.unusedSimpArgs false
namespace Go.Sim.Mn
open Go Go.Sim
set_option maxRecDepth 1000000 in
theorem mach_run:isTrue (xcallN xpB 400 N3_ [] XS.e)=true:=by kernel_rfl
end Go.Sim.Mn
