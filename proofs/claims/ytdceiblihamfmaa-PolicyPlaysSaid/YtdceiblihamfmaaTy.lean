/- The types of the laws' parameters, as relations between abstract memory and plain data. -/
import Derived.Test.YtdceiblihamfmaaAx13
import Derived.Test.YtdceiblihamfmaaProg
set_option maxRecDepth 100000
namespace Go.Proofs.Ytdceiblihamfmaa
open Go Ax
abbrev ty3 : Ty (Int) := (tInt .i64)
theorem good3 : ty3.Good := tInt_good _
theorem op3 : Opens Try.prog 3 ty3 := opens_int Try.underlying3 (by kernel_rfl)
abbrev ty28 : Ty ((Int) × (Int)) := (tPair ty3 ty3)
theorem good28 : ty28.Good := (tPair_good good3 good3)
theorem op28 : Opens Try.prog 28 ty28 := opens_struct Try.underlying28 (by kernel_rfl) (opensF_cons good3 rfl op3 (opensF_one rfl op3))
abbrev ty22 : Ty (List ((Int) × (Int))) := (tSlice ty28)
theorem good22 : ty22.Good := tSlice_good good28
theorem op22 : Opens Try.prog 22 ty22 := opens_slice Try.underlying22 (by kernel_rfl) op28 good28 (by decide)
abbrev ty33 : Ty (List (Int)) := (tSlice ty3)
theorem good33 : ty33.Good := tSlice_good good3
theorem op33 : Opens Try.prog 33 ty33 := opens_slice Try.underlying33 (by kernel_rfl) op3 good3 (by decide)
end Go.Proofs.Ytdceiblihamfmaa
