import Derived.Test.YtnlaiaklafjamaaGB7
import Derived.Test.YtnlaiaklafjamaaGB6
import Derived.Test.YtnlaiaklafjamaaGB10
namespace Go.Proofs.Ytnlaiaklafjamaa
set_option linter.unusedSimpArgs false
set_option linter.unusedVariables false
open Go.RowKit
set_option maxRecDepth 100000
set_option maxHeartbeats 4000000
end Go.Proofs.Ytnlaiaklafjamaa

