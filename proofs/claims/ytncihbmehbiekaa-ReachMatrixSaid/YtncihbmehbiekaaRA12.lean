import Derived.Test.YtncihbmehbiekaaRA8
import Derived.Test.YtncihbmehbiekaaRA6
import Derived.Test.YtncihbmehbiekaaRA11
namespace Go.Proofs.Ytncihbmehbiekaa
set_option linter.unusedSimpArgs false
set_option linter.unusedVariables false
open Go.RowKit
set_option maxRecDepth 100000
set_option maxHeartbeats 4000000
end Go.Proofs.Ytncihbmehbiekaa

