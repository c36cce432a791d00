/-
  What Write makes of segments.
-/
import Derived.Test.YtdejcgmaphmjbaaDoorWP
import Derived.Test.YtdejcgmaphmjbaaDoorWG
import Derived.Test.YtdejcgmaphmjbaaDoorSH
set_option linter.unusedSimpArgs false
set_option linter.unusedVariables false
namespace Go.Proofs.YtdejcgmaphmjbaaDoor
end Go.Proofs.YtdejcgmaphmjbaaDoor
