/- The types of the laws' parameters, as relations between abstract memory and plain data. -/
import Derived.Test.YtdlanbfbbopfhaaProg
import Derived.Test.YtdlanbfbbopfhaaJCo1
set_option maxRecDepth 100000
namespace Go.Proofs.Ytdlanbfbbopfhaa
open Go Ax
abbrev ty3 : Ty (Int) := (tInt .i64)
theorem good3 : ty3.Good := tInt_good _
theorem op3 : Opens Try.prog 3 ty3 := opens_int Try.underlying3 (by kernel_rfl)
abbrev ty9 : Ty (ByteArray) := tStr
theorem good9 : ty9.Good := tStr_good
theorem op9 : Opens Try.prog 9 ty9 := opens_str Try.underlying9 (by kernel_rfl)
abbrev ty22 : Ty (List (ByteArray)) := (tSlice ty9)
theorem good22 : ty22.Good := tSlice_good good9
theorem op22 : Opens Try.prog 22 ty22 := opens_slice Try.underlying22 (by kernel_rfl) op9 good9 (by decide)
abbrev ty46 : Ty ((Int) × (Int) × (Int)) := (tPair ty3 (tPair ty3 ty3))
theorem good46 : ty46.Good := (tPair_good good3 (tPair_good good3 good3))
theorem op46 : Opens Try.prog 46 ty46 := opens_struct Try.underlying46 (by kernel_rfl) (opensF_cons good3 rfl op3 (opensF_cons good3 rfl op3 (opensF_one rfl op3)))
abbrev ty47 : Ty (List ((Int) × (Int) × (Int))) := (tSlice ty46)
theorem good47 : ty47.Good := tSlice_good good46
theorem op47 : Opens Try.prog 47 ty47 := opens_slice Try.underlying47 (by kernel_rfl) op46 good46 (by decide)
abbrev ty49 : Ty ((Int) × (Int) × (Int) × (Int) × (List ((Int) × (Int) × (Int)))) := (tPair ty3 (tPair ty3 (tPair ty3 (tPair ty3 ty47))))
theorem good49 : ty49.Good := (tPair_good good3 (tPair_good good3 (tPair_good good3 (tPair_good good3 good47))))
theorem op49 : Opens Try.prog 49 ty49 := opens_struct Try.underlying49 (by kernel_rfl) (opensF_cons good3 rfl op3 (opensF_cons good3 rfl op3 (opensF_cons good3 rfl op3 (opensF_cons good3 rfl op3 (opensF_one rfl op47)))))
abbrev ty23 : Ty (List ((Int) × (Int) × (Int) × (Int) × (List ((Int) × (Int) × (Int))))) := (tSlice ty49)
theorem good23 : ty23.Good := tSlice_good good49
theorem op23 : Opens Try.prog 23 ty23 := opens_slice Try.underlying23 (by kernel_rfl) op49 good49 (by decide)
abbrev ty25 : Ty ((Int) × (List (ByteArray)) × (List ((Int) × (Int) × (Int) × (Int) × (List ((Int) × (Int) × (Int)))))) := (tPair ty3 (tPair ty22 ty23))
theorem good25 : ty25.Good := (tPair_good good3 (tPair_good good22 good23))
theorem op25 : Opens Try.prog 25 ty25 := opens_struct Try.underlying25 (by kernel_rfl) (opensF_cons good3 rfl op3 (opensF_cons good22 rfl op22 (opensF_one rfl op23)))
end Go.Proofs.Ytdlanbfbbopfhaa
