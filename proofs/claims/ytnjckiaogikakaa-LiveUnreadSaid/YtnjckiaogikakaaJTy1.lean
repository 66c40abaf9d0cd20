/- The types of the laws' parameters, as relations between abstract memory and plain data. -/
import Derived.Test.YtnjckiaogikakaaProg
import Derived.Test.YtnjckiaogikakaaJCo1
set_option maxRecDepth 100000
namespace Go.Proofs.Ytnjckiaogikakaa
open Go Ax
abbrev ty3 : Ty (Int) := (tInt .i64)
theorem good3 : ty3.Good := tInt_good _
theorem op3 : Opens Try.prog 3 ty3 := opens_int Try.underlying3 (by kernel_rfl)
abbrev ty9 : Ty (ByteArray) := tStr
theorem good9 : ty9.Good := tStr_good
theorem op9 : Opens Try.prog 9 ty9 := opens_str Try.underlying9 (by kernel_rfl)
abbrev ty22 : Ty (List (ByteArray)) := (tSlice ty9)
theorem good22 : ty22.Good := tSlice_good good9
theorem op22 : Opens Try.prog 22 ty22 := opens_slice Try.underlying22 (by kernel_rfl) op9 good9 (by decide)
abbrev ty58 : Ty ((Int) × (Int) × (Int)) := (tPair ty3 (tPair ty3 ty3))
theorem good58 : ty58.Good := (tPair_good good3 (tPair_good good3 good3))
theorem op58 : Opens Try.prog 58 ty58 := opens_struct Try.underlying58 (by kernel_rfl) (opensF_cons good3 rfl op3 (opensF_cons good3 rfl op3 (opensF_one rfl op3)))
abbrev ty46 : Ty (List ((Int) × (Int) × (Int))) := (tSlice ty58)
theorem good46 : ty46.Good := tSlice_good good58
theorem op46 : Opens Try.prog 46 ty46 := opens_slice Try.underlying46 (by kernel_rfl) op58 good58 (by decide)
abbrev ty48 : Ty ((Int) × (Int) × (Int) × (Int) × (List ((Int) × (Int) × (Int)))) := (tPair ty3 (tPair ty3 (tPair ty3 (tPair ty3 ty46))))
theorem good48 : ty48.Good := (tPair_good good3 (tPair_good good3 (tPair_good good3 (tPair_good good3 good46))))
theorem op48 : Opens Try.prog 48 ty48 := opens_struct Try.underlying48 (by kernel_rfl) (opensF_cons good3 rfl op3 (opensF_cons good3 rfl op3 (opensF_cons good3 rfl op3 (opensF_cons good3 rfl op3 (opensF_one rfl op46)))))
abbrev ty23 : Ty (List ((Int) × (Int) × (Int) × (Int) × (List ((Int) × (Int) × (Int))))) := (tSlice ty48)
theorem good23 : ty23.Good := tSlice_good good48
theorem op23 : Opens Try.prog 23 ty23 := opens_slice Try.underlying23 (by kernel_rfl) op48 good48 (by decide)
abbrev ty25 : Ty ((Int) × (List (ByteArray)) × (List ((Int) × (Int) × (Int) × (Int) × (List ((Int) × (Int) × (Int)))))) := (tPair ty3 (tPair ty22 ty23))
theorem good25 : ty25.Good := (tPair_good good3 (tPair_good good22 good23))
theorem op25 : Opens Try.prog 25 ty25 := opens_struct Try.underlying25 (by kernel_rfl) (opensF_cons good3 rfl op3 (opensF_cons good22 rfl op22 (opensF_one rfl op23)))
abbrev ty56 : Ty ((Int) × (Int) × (ByteArray)) := (tPair ty3 (tPair ty3 ty9))
theorem good56 : ty56.Good := (tPair_good good3 (tPair_good good3 good9))
theorem op56 : Opens Try.prog 56 ty56 := opens_struct Try.underlying56 (by kernel_rfl) (opensF_cons good3 rfl op3 (opensF_cons good3 rfl op3 (opensF_one rfl op9)))
abbrev ty26 : Ty (List ((Int) × (Int) × (ByteArray))) := (tSlice ty56)
theorem good26 : ty26.Good := tSlice_good good56
theorem op26 : Opens Try.prog 26 ty26 := opens_slice Try.underlying26 (by kernel_rfl) op56 good56 (by decide)
abbrev ty35 : Ty (List (Int)) := (tSlice ty3)
theorem good35 : ty35.Good := tSlice_good good3
theorem op35 : Opens Try.prog 35 ty35 := opens_slice Try.underlying35 (by kernel_rfl) op3 good3 (by decide)
abbrev ty99 : Ty ((Int) × (Int) × (Int)) := (tPair ty3 (tPair ty3 ty3))
theorem good99 : ty99.Good := (tPair_good good3 (tPair_good good3 good3))
theorem op99 : Opens Try.prog 99 ty99 := opens_struct Try.underlying99 (by kernel_rfl) (opensF_cons good3 rfl op3 (opensF_cons good3 rfl op3 (opensF_one rfl op3)))
abbrev ty41 : Ty (List ((Int) × (Int) × (Int))) := (tSlice ty99)
theorem good41 : ty41.Good := tSlice_good good99
theorem op41 : Opens Try.prog 41 ty41 := opens_slice Try.underlying41 (by kernel_rfl) op99 good99 (by decide)
abbrev ty43 : Ty ((Int) × (Int) × (Int) × (Int) × (Int) × (List (Int)) × (List ((Int) × (Int) × (Int))) × (Int) × (List (Int))) := (tPair ty3 (tPair ty3 (tPair ty3 (tPair ty3 (tPair ty3 (tPair ty35 (tPair ty41 (tPair ty3 ty35))))))))
theorem good43 : ty43.Good := (tPair_good good3 (tPair_good good3 (tPair_good good3 (tPair_good good3 (tPair_good good3 (tPair_good good35 (tPair_good good41 (tPair_good good3 good35))))))))
theorem op43 : Opens Try.prog 43 ty43 := opens_struct Try.underlying43 (by kernel_rfl) (opensF_cons good3 rfl op3 (opensF_cons good3 rfl op3 (opensF_cons good3 rfl op3 (opensF_cons good3 rfl op3 (opensF_cons good3 rfl op3 (opensF_cons good35 rfl op35 (opensF_cons good41 rfl op41 (opensF_cons good3 rfl op3 (opensF_one rfl op35)))))))))
abbrev ty27 : Ty (List ((Int) × (Int) × (Int) × (Int) × (Int) × (List (Int)) × (List ((Int) × (Int) × (Int))) × (Int) × (List (Int)))) := (tSlice ty43)
theorem good27 : ty27.Good := tSlice_good good43
theorem op27 : Opens Try.prog 27 ty27 := opens_slice Try.underlying27 (by kernel_rfl) op43 good43 (by decide)
abbrev ty73 : Ty ((Int) × (Int)) := (tPair ty3 ty3)
theorem good73 : ty73.Good := (tPair_good good3 good3)
theorem op73 : Opens Try.prog 73 ty73 := opens_struct Try.underlying73 (by kernel_rfl) (opensF_cons good3 rfl op3 (opensF_one rfl op3))
abbrev ty28 : Ty (List ((Int) × (Int))) := (tSlice ty73)
theorem good28 : ty28.Good := tSlice_good good73
theorem op28 : Opens Try.prog 28 ty28 := opens_slice Try.underlying28 (by kernel_rfl) op73 good73 (by decide)
abbrev ty30 : Ty ((Int) × (Int) × (List ((Int) × (Int) × (ByteArray))) × (List ((Int) × (Int) × (Int) × (Int) × (Int) × (List (Int)) × (List ((Int) × (Int) × (Int))) × (Int) × (List (Int)))) × (List ((Int) × (Int)))) := (tPair ty3 (tPair ty3 (tPair ty26 (tPair ty27 ty28))))
theorem good30 : ty30.Good := (tPair_good good3 (tPair_good good3 (tPair_good good26 (tPair_good good27 good28))))
theorem op30 : Opens Try.prog 30 ty30 := opens_struct Try.underlying30 (by kernel_rfl) (opensF_cons good3 rfl op3 (opensF_cons good3 rfl op3 (opensF_cons good26 rfl op26 (opensF_cons good27 rfl op27 (opensF_one rfl op28)))))
abbrev ty4 : Ty (Bool) := tBool
theorem good4 : ty4.Good := tBool_good
theorem op4 : Opens Try.prog 4 ty4 := opens_bool Try.underlying4 (by kernel_rfl)
abbrev ty39 : Ty (List (Bool)) := (tSlice ty4)
theorem good39 : ty39.Good := tSlice_good good4
theorem op39 : Opens Try.prog 39 ty39 := opens_slice Try.underlying39 (by kernel_rfl) op4 good4 (by decide)
end Go.Proofs.Ytnjckiaogikakaa
