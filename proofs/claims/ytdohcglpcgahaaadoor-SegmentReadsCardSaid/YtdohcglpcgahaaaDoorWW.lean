/-
  What Write makes of segments.
-/
import Derived.Test.YtdohcglpcgahaaaDoorWP
import Derived.Test.YtdohcglpcgahaaaDoorWG
import Derived.Test.YtdohcglpcgahaaaDoorSH
set_option linter.unusedSimpArgs false
set_option linter.unusedVariables false
namespace Go.Proofs.YtdohcglpcgahaaaDoor
end Go.Proofs.YtdohcglpcgahaaaDoor
