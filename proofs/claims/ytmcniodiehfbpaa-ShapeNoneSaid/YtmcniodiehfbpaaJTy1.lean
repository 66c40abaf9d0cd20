/- The types of the laws' parameters, as relations between abstract memory and plain data. -/
import Derived.Test.YtmcniodiehfbpaaProg
import Derived.Test.YtmcniodiehfbpaaJSh1
set_option maxRecDepth 100000
namespace Go.Proofs.Ytmcniodiehfbpaa
open Go Ax
abbrev ty3 : Ty (Int) := (tInt .i64)
theorem good3 : ty3.Good := tInt_good _
theorem op3 : Opens Try.prog 3 ty3 := opens_int Try.underlying3 (by kernel_rfl)
abbrev ty4 : Ty (Bool) := tBool
theorem good4 : ty4.Good := tBool_good
theorem op4 : Opens Try.prog 4 ty4 := opens_bool Try.underlying4 (by kernel_rfl)
abbrev ty27 : Ty ((Int) × (Int) × (Int) × (Bool)) := (tPair ty3 (tPair ty3 (tPair ty3 ty4)))
theorem good27 : ty27.Good := (tPair_good good3 (tPair_good good3 (tPair_good good3 good4)))
theorem op27 : Opens Try.prog 27 ty27 := opens_struct Try.underlying27 (by kernel_rfl) (opensF_cons good3 rfl op3 (opensF_cons good3 rfl op3 (opensF_cons good3 rfl op3 (opensF_one rfl op4))))
abbrev ty22 : Ty (List ((Int) × (Int) × (Int) × (Bool))) := (tSlice ty27)
theorem good22 : ty22.Good := tSlice_good good27
theorem op22 : Opens Try.prog 22 ty22 := opens_slice Try.underlying22 (by kernel_rfl) op27 good27 (by decide)
abbrev ty5 : Ty (Int) := (tInt .u8)
theorem good5 : ty5.Good := tInt_good _
theorem op5 : Opens Try.prog 5 ty5 := opens_int Try.underlying5 (by kernel_rfl)
end Go.Proofs.Ytmcniodiehfbpaa
