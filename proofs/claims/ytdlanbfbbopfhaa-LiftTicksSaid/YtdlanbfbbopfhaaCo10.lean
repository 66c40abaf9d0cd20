/- The document of package code: are two programs alike? -/
import Derived.Test.YtdlanbfbbopfhaaCo9
import Derived.Test.YtdlanbfbbopfhaaAx24
set_option linter.unusedVariables false
set_option linter.unusedSimpArgs false
set_option maxRecDepth 20000
set_option maxHeartbeats 8000000
namespace Go.Proofs.Ytdlanbfbbopfhaa
open Go Ax
end Go.Proofs.Ytdlanbfbbopfhaa
