/-
  What Write makes of segments.
-/
import Derived.Test.YtdejcgmaphmjbaaWP
import Derived.Test.YtdejcgmaphmjbaaWG
import Derived.Test.YtdejcgmaphmjbaaSH
set_option linter.unusedSimpArgs false
set_option linter.unusedVariables false
namespace Go.Proofs.Ytdejcgmaphmjbaa
end Go.Proofs.Ytdejcgmaphmjbaa
