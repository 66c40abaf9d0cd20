/- The types of the laws' parameters, as relations between abstract memory and plain data. -/
import Derived.Test.YthhbocbgkhooaaaProg
import Derived.Test.YthhbocbgkhooaaaJLx1
set_option maxRecDepth 100000
namespace Go.Proofs.Ythhbocbgkhooaaa
open Go Ax
abbrev ty9 : Ty (ByteArray) := tStr
theorem good9 : ty9.Good := tStr_good
theorem op9 : Opens Try.prog 9 ty9 := opens_str Try.underlying9 (by kernel_rfl)
abbrev ty3 : Ty (Int) := (tInt .i64)
theorem good3 : ty3.Good := tInt_good _
theorem op3 : Opens Try.prog 3 ty3 := opens_int Try.underlying3 (by kernel_rfl)
abbrev ty34 : Ty ((Int) × (ByteArray) × (Int) × (Int)) := (tPair ty3 (tPair ty9 (tPair ty3 ty3)))
theorem good34 : ty34.Good := (tPair_good good3 (tPair_good good9 (tPair_good good3 good3)))
theorem op34 : Opens Try.prog 34 ty34 := opens_struct Try.underlying34 (by kernel_rfl) (opensF_cons good3 rfl op3 (opensF_cons good9 rfl op9 (opensF_cons good3 rfl op3 (opensF_one rfl op3))))
abbrev ty23 : Ty (List ((Int) × (ByteArray) × (Int) × (Int))) := (tSlice ty34)
theorem good23 : ty23.Good := tSlice_good good34
theorem op23 : Opens Try.prog 23 ty23 := opens_slice Try.underlying23 (by kernel_rfl) op34 good34 (by decide)
end Go.Proofs.Ythhbocbgkhooaaa
