/-
  What Write makes of segments.
-/
import Derived.Test.YtdohcglpcgahaaaGreatDoorWP
import Derived.Test.YtdohcglpcgahaaaGreatDoorWFX
import Derived.Test.YtdohcglpcgahaaaGreatDoorSH
set_option linter.unusedSimpArgs false
set_option linter.unusedVariables false
namespace Go.Proofs.YtdohcglpcgahaaaGreatDoor
end Go.Proofs.YtdohcglpcgahaaaGreatDoor
