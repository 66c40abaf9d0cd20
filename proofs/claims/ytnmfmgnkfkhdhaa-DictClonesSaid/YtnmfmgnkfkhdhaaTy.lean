/- The types of the laws' parameters, as relations between abstract memory and plain data. -/
import Derived.Test.YtnmfmgnkfkhdhaaAx13
import Derived.Test.YtnmfmgnkfkhdhaaProg
set_option maxRecDepth 100000
namespace Go.Proofs.Ytnmfmgnkfkhdhaa
open Go Ax
abbrev ty3 : Ty (Int) := (tInt .i64)
theorem good3 : ty3.Good := tInt_good _
theorem op3 : Opens Try.prog 3 ty3 := opens_int Try.underlying3 (by kernel_rfl)
abbrev ty9 : Ty (ByteArray) := tStr
theorem good9 : ty9.Good := tStr_good
theorem op9 : Opens Try.prog 9 ty9 := opens_str Try.underlying9 (by kernel_rfl)
abbrev ty32 : Ty ((Int) × (Int) × (ByteArray)) := (tPair ty3 (tPair ty3 ty9))
theorem good32 : ty32.Good := (tPair_good good3 (tPair_good good3 good9))
theorem op32 : Opens Try.prog 32 ty32 := opens_struct Try.underlying32 (by kernel_rfl) (opensF_cons good3 rfl op3 (opensF_cons good3 rfl op3 (opensF_one rfl op9)))
abbrev ty34 : Ty ((Int) × (ByteArray) × ((Int) × (Int) × (ByteArray))) := (tPair ty3 (tPair ty9 ty32))
theorem good34 : ty34.Good := (tPair_good good3 (tPair_good good9 good32))
theorem op34 : Opens Try.prog 34 ty34 := opens_struct Try.underlying34 (by kernel_rfl) (opensF_cons good3 rfl op3 (opensF_cons good9 rfl op9 (opensF_one rfl op32)))
abbrev ty22 : Ty (List ((Int) × (ByteArray) × ((Int) × (Int) × (ByteArray)))) := (tSlice ty34)
theorem good22 : ty22.Good := tSlice_good good34
theorem op22 : Opens Try.prog 22 ty22 := opens_slice Try.underlying22 (by kernel_rfl) op34 good34 (by decide)
end Go.Proofs.Ytnmfmgnkfkhdhaa
