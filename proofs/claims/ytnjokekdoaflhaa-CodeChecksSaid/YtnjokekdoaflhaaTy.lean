/- The types of the laws' parameters, as relations between abstract memory and plain data. -/
import Derived.Test.YtnjokekdoaflhaaAx13
import Derived.Test.YtnjokekdoaflhaaProg
set_option maxRecDepth 100000
namespace Go.Proofs.Ytnjokekdoaflhaa
open Go Ax
abbrev ty3 : Ty (Int) := (tInt .i64)
theorem good3 : ty3.Good := tInt_good _
theorem op3 : Opens Try.prog 3 ty3 := opens_int Try.underlying3 (by kernel_rfl)
abbrev ty29 : Ty ((Int) × (Int) × (Int)) := (tPair ty3 (tPair ty3 ty3))
theorem good29 : ty29.Good := (tPair_good good3 (tPair_good good3 good3))
theorem op29 : Opens Try.prog 29 ty29 := opens_struct Try.underlying29 (by kernel_rfl) (opensF_cons good3 rfl op3 (opensF_cons good3 rfl op3 (opensF_one rfl op3)))
abbrev ty22 : Ty (List ((Int) × (Int) × (Int))) := (tSlice ty29)
theorem good22 : ty22.Good := tSlice_good good29
theorem op22 : Opens Try.prog 22 ty22 := opens_slice Try.underlying22 (by kernel_rfl) op29 good29 (by decide)
abbrev ty24 : Ty ((Int) × (Int) × (Int) × (Int) × (List ((Int) × (Int) × (Int)))) := (tPair ty3 (tPair ty3 (tPair ty3 (tPair ty3 ty22))))
theorem good24 : ty24.Good := (tPair_good good3 (tPair_good good3 (tPair_good good3 (tPair_good good3 good22))))
theorem op24 : Opens Try.prog 24 ty24 := opens_struct Try.underlying24 (by kernel_rfl) (opensF_cons good3 rfl op3 (opensF_cons good3 rfl op3 (opensF_cons good3 rfl op3 (opensF_cons good3 rfl op3 (opensF_one rfl op22)))))
abbrev ty9 : Ty (ByteArray) := tStr
theorem good9 : ty9.Good := tStr_good
theorem op9 : Opens Try.prog 9 ty9 := opens_str Try.underlying9 (by kernel_rfl)
abbrev ty34 : Ty (List (ByteArray)) := (tSlice ty9)
theorem good34 : ty34.Good := tSlice_good good9
theorem op34 : Opens Try.prog 34 ty34 := opens_slice Try.underlying34 (by kernel_rfl) op9 good9 (by decide)
abbrev ty35 : Ty (List ((Int) × (Int) × (Int) × (Int) × (List ((Int) × (Int) × (Int))))) := (tSlice ty24)
theorem good35 : ty35.Good := tSlice_good good24
theorem op35 : Opens Try.prog 35 ty35 := opens_slice Try.underlying35 (by kernel_rfl) op24 good24 (by decide)
abbrev ty37 : Ty ((Int) × (List (ByteArray)) × (List ((Int) × (Int) × (Int) × (Int) × (List ((Int) × (Int) × (Int)))))) := (tPair ty3 (tPair ty34 ty35))
theorem good37 : ty37.Good := (tPair_good good3 (tPair_good good34 good35))
theorem op37 : Opens Try.prog 37 ty37 := opens_struct Try.underlying37 (by kernel_rfl) (opensF_cons good3 rfl op3 (opensF_cons good34 rfl op34 (opensF_one rfl op35)))
end Go.Proofs.Ytnjokekdoaflhaa
