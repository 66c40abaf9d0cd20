/- The types of the laws' parameters, as relations between abstract memory and plain data. -/
import Derived.Test.YtffgdcmiacooaaaAx13
import Derived.Test.YtffgdcmiacooaaaProg
set_option maxRecDepth 100000
namespace Go.Proofs.Ytffgdcmiacooaaa
open Go Ax
abbrev ty9 : Ty (ByteArray) := tStr
theorem good9 : ty9.Good := tStr_good
theorem op9 : Opens Try.prog 9 ty9 := opens_str Try.underlying9 (by kernel_rfl)
end Go.Proofs.Ytffgdcmiacooaaa
