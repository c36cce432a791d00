/-
  The walk of the law's Small, nothing told of its sum. The walk of the law's Small, its sum told.
-/
import Derived.Test.YtdohcglpcgahaaaGreatDoorNX
import Derived.Test.YtdohcglpcgahaaaGreatDoorTab
import Derived.Test.YtdohcglpcgahaaaGreatDoorBK
set_option linter.unusedSimpArgs false
set_option linter.unusedVariables false
namespace Go.Proofs.YtdohcglpcgahaaaGreatDoor
section
open Go Sat Go.RowKit Go.PlainAid
end
section
open Go Sat Go.RowKit Go.PlainAid
end
end Go.Proofs.YtdohcglpcgahaaaGreatDoor
