/- The types of the laws' parameters, as relations between abstract memory and plain data. -/
import Derived.Test.YtmdpifedcaaobaaDoorProg
import Derived.Test.YtmdpifedcaaobaaDoorJCo1
set_option maxRecDepth 100000
namespace Go.Proofs.YtmdpifedcaaobaaDoor
open Go Ax
abbrev ty3 : Ty (Int) := (tInt .i64)
theorem good3 : ty3.Good := tInt_good _
theorem op3 : Opens Tryd.prog 3 ty3 := opens_int Tryd.underlying3 (by kernel_rfl)
abbrev ty9 : Ty (ByteArray) := tStr
theorem good9 : ty9.Good := tStr_good
theorem op9 : Opens Tryd.prog 9 ty9 := opens_str Tryd.underlying9 (by kernel_rfl)
abbrev ty22 : Ty (List (ByteArray)) := (tSlice ty9)
theorem good22 : ty22.Good := tSlice_good good9
theorem op22 : Opens Tryd.prog 22 ty22 := opens_slice Tryd.underlying22 (by kernel_rfl) op9 good9 (by decide)
abbrev ty56 : Ty ((Int) × (Int) × (Int)) := (tPair ty3 (tPair ty3 ty3))
theorem good56 : ty56.Good := (tPair_good good3 (tPair_good good3 good3))
theorem op56 : Opens Tryd.prog 56 ty56 := opens_struct Tryd.underlying56 (by kernel_rfl) (opensF_cons good3 rfl op3 (opensF_cons good3 rfl op3 (opensF_one rfl op3)))
abbrev ty43 : Ty (List ((Int) × (Int) × (Int))) := (tSlice ty56)
theorem good43 : ty43.Good := tSlice_good good56
theorem op43 : Opens Tryd.prog 43 ty43 := opens_slice Tryd.underlying43 (by kernel_rfl) op56 good56 (by decide)
abbrev ty45 : Ty ((Int) × (Int) × (Int) × (Int) × (List ((Int) × (Int) × (Int)))) := (tPair ty3 (tPair ty3 (tPair ty3 (tPair ty3 ty43))))
theorem good45 : ty45.Good := (tPair_good good3 (tPair_good good3 (tPair_good good3 (tPair_good good3 good43))))
theorem op45 : Opens Tryd.prog 45 ty45 := opens_struct Tryd.underlying45 (by kernel_rfl) (opensF_cons good3 rfl op3 (opensF_cons good3 rfl op3 (opensF_cons good3 rfl op3 (opensF_cons good3 rfl op3 (opensF_one rfl op43)))))
abbrev ty23 : Ty (List ((Int) × (Int) × (Int) × (Int) × (List ((Int) × (Int) × (Int))))) := (tSlice ty45)
theorem good23 : ty23.Good := tSlice_good good45
theorem op23 : Opens Tryd.prog 23 ty23 := opens_slice Tryd.underlying23 (by kernel_rfl) op45 good45 (by decide)
abbrev ty25 : Ty ((Int) × (List (ByteArray)) × (List ((Int) × (Int) × (Int) × (Int) × (List ((Int) × (Int) × (Int)))))) := (tPair ty3 (tPair ty22 ty23))
theorem good25 : ty25.Good := (tPair_good good3 (tPair_good good22 good23))
theorem op25 : Opens Tryd.prog 25 ty25 := opens_struct Tryd.underlying25 (by kernel_rfl) (opensF_cons good3 rfl op3 (opensF_cons good22 rfl op22 (opensF_one rfl op23)))
end Go.Proofs.YtmdpifedcaaobaaDoor
