/- The types of the laws' parameters, as relations between abstract memory and plain data. -/
import Derived.Test.YtfobbmllbbckkaaProg
import Derived.Test.YtfobbmllbbckkaaJCo1
set_option maxRecDepth 100000
namespace Go.Proofs.Ytfobbmllbbckkaa
open Go Ax
abbrev ty3 : Ty (Int) := (tInt .i64)
theorem good3 : ty3.Good := tInt_good _
theorem op3 : Opens Try.prog 3 ty3 := opens_int Try.underlying3 (by kernel_rfl)
abbrev ty9 : Ty (ByteArray) := tStr
theorem good9 : ty9.Good := tStr_good
theorem op9 : Opens Try.prog 9 ty9 := opens_str Try.underlying9 (by kernel_rfl)
abbrev ty22 : Ty (List (ByteArray)) := (tSlice ty9)
theorem good22 : ty22.Good := tSlice_good good9
theorem op22 : Opens Try.prog 22 ty22 := opens_slice Try.underlying22 (by kernel_rfl) op9 good9 (by decide)
abbrev ty53 : Ty ((Int) × (Int) × (Int)) := (tPair ty3 (tPair ty3 ty3))
theorem good53 : ty53.Good := (tPair_good good3 (tPair_good good3 good3))
theorem op53 : Opens Try.prog 53 ty53 := opens_struct Try.underlying53 (by kernel_rfl) (opensF_cons good3 rfl op3 (opensF_cons good3 rfl op3 (opensF_one rfl op3)))
abbrev ty47 : Ty (List ((Int) × (Int) × (Int))) := (tSlice ty53)
theorem good47 : ty47.Good := tSlice_good good53
theorem op47 : Opens Try.prog 47 ty47 := opens_slice Try.underlying47 (by kernel_rfl) op53 good53 (by decide)
abbrev ty49 : Ty ((Int) × (Int) × (Int) × (Int) × (List ((Int) × (Int) × (Int)))) := (tPair ty3 (tPair ty3 (tPair ty3 (tPair ty3 ty47))))
theorem good49 : ty49.Good := (tPair_good good3 (tPair_good good3 (tPair_good good3 (tPair_good good3 good47))))
theorem op49 : Opens Try.prog 49 ty49 := opens_struct Try.underlying49 (by kernel_rfl) (opensF_cons good3 rfl op3 (opensF_cons good3 rfl op3 (opensF_cons good3 rfl op3 (opensF_cons good3 rfl op3 (opensF_one rfl op47)))))
abbrev ty23 : Ty (List ((Int) × (Int) × (Int) × (Int) × (List ((Int) × (Int) × (Int))))) := (tSlice ty49)
theorem good23 : ty23.Good := tSlice_good good49
theorem op23 : Opens Try.prog 23 ty23 := opens_slice Try.underlying23 (by kernel_rfl) op49 good49 (by decide)
abbrev ty25 : Ty ((Int) × (List (ByteArray)) × (List ((Int) × (Int) × (Int) × (Int) × (List ((Int) × (Int) × (Int)))))) := (tPair ty3 (tPair ty22 ty23))
theorem good25 : ty25.Good := (tPair_good good3 (tPair_good good22 good23))
theorem op25 : Opens Try.prog 25 ty25 := opens_struct Try.underlying25 (by kernel_rfl) (opensF_cons good3 rfl op3 (opensF_cons good22 rfl op22 (opensF_one rfl op23)))
abbrev ty51 : Ty ((Int) × (Int) × (ByteArray)) := (tPair ty3 (tPair ty3 ty9))
theorem good51 : ty51.Good := (tPair_good good3 (tPair_good good3 good9))
theorem op51 : Opens Try.prog 51 ty51 := opens_struct Try.underlying51 (by kernel_rfl) (opensF_cons good3 rfl op3 (opensF_cons good3 rfl op3 (opensF_one rfl op9)))
abbrev ty26 : Ty (List ((Int) × (Int) × (ByteArray))) := (tSlice ty51)
theorem good26 : ty26.Good := tSlice_good good51
theorem op26 : Opens Try.prog 26 ty26 := opens_slice Try.underlying26 (by kernel_rfl) op51 good51 (by decide)
abbrev ty38 : Ty (List (Int)) := (tSlice ty3)
theorem good38 : ty38.Good := tSlice_good good3
theorem op38 : Opens Try.prog 38 ty38 := opens_slice Try.underlying38 (by kernel_rfl) op3 good3 (by decide)
abbrev ty90 : Ty ((Int) × (Int) × (Int)) := (tPair ty3 (tPair ty3 ty3))
theorem good90 : ty90.Good := (tPair_good good3 (tPair_good good3 good3))
theorem op90 : Opens Try.prog 90 ty90 := opens_struct Try.underlying90 (by kernel_rfl) (opensF_cons good3 rfl op3 (opensF_cons good3 rfl op3 (opensF_one rfl op3)))
abbrev ty40 : Ty (List ((Int) × (Int) × (Int))) := (tSlice ty90)
theorem good40 : ty40.Good := tSlice_good good90
theorem op40 : Opens Try.prog 40 ty40 := opens_slice Try.underlying40 (by kernel_rfl) op90 good90 (by decide)
abbrev ty42 : Ty ((Int) × (Int) × (Int) × (Int) × (Int) × (List (Int)) × (List ((Int) × (Int) × (Int))) × (Int) × (List (Int))) := (tPair ty3 (tPair ty3 (tPair ty3 (tPair ty3 (tPair ty3 (tPair ty38 (tPair ty40 (tPair ty3 ty38))))))))
theorem good42 : ty42.Good := (tPair_good good3 (tPair_good good3 (tPair_good good3 (tPair_good good3 (tPair_good good3 (tPair_good good38 (tPair_good good40 (tPair_good good3 good38))))))))
theorem op42 : Opens Try.prog 42 ty42 := opens_struct Try.underlying42 (by kernel_rfl) (opensF_cons good3 rfl op3 (opensF_cons good3 rfl op3 (opensF_cons good3 rfl op3 (opensF_cons good3 rfl op3 (opensF_cons good3 rfl op3 (opensF_cons good38 rfl op38 (opensF_cons good40 rfl op40 (opensF_cons good3 rfl op3 (opensF_one rfl op38)))))))))
abbrev ty27 : Ty (List ((Int) × (Int) × (Int) × (Int) × (Int) × (List (Int)) × (List ((Int) × (Int) × (Int))) × (Int) × (List (Int)))) := (tSlice ty42)
theorem good27 : ty27.Good := tSlice_good good42
theorem op27 : Opens Try.prog 27 ty27 := opens_slice Try.underlying27 (by kernel_rfl) op42 good42 (by decide)
abbrev ty60 : Ty ((Int) × (Int)) := (tPair ty3 ty3)
theorem good60 : ty60.Good := (tPair_good good3 good3)
theorem op60 : Opens Try.prog 60 ty60 := opens_struct Try.underlying60 (by kernel_rfl) (opensF_cons good3 rfl op3 (opensF_one rfl op3))
abbrev ty28 : Ty (List ((Int) × (Int))) := (tSlice ty60)
theorem good28 : ty28.Good := tSlice_good good60
theorem op28 : Opens Try.prog 28 ty28 := opens_slice Try.underlying28 (by kernel_rfl) op60 good60 (by decide)
abbrev ty30 : Ty ((Int) × (Int) × (List ((Int) × (Int) × (ByteArray))) × (List ((Int) × (Int) × (Int) × (Int) × (Int) × (List (Int)) × (List ((Int) × (Int) × (Int))) × (Int) × (List (Int)))) × (List ((Int) × (Int)))) := (tPair ty3 (tPair ty3 (tPair ty26 (tPair ty27 ty28))))
theorem good30 : ty30.Good := (tPair_good good3 (tPair_good good3 (tPair_good good26 (tPair_good good27 good28))))
theorem op30 : Opens Try.prog 30 ty30 := opens_struct Try.underlying30 (by kernel_rfl) (opensF_cons good3 rfl op3 (opensF_cons good3 rfl op3 (opensF_cons good26 rfl op26 (opensF_cons good27 rfl op27 (opensF_one rfl op28)))))
end Go.Proofs.Ytfobbmllbbckkaa
