/- The types of the laws' parameters, as relations between abstract memory and plain data. -/
import Derived.Test.YtmdjepfpgmignaaProg
import Derived.Test.YtmdjepfpgmignaaJSc3
set_option maxRecDepth 100000
namespace Go.Proofs.Ytmdjepfpgmignaa
open Go Ax
abbrev ty3 : Ty (Int) := (tInt .i64)
theorem good3 : ty3.Good := tInt_good _
theorem op3 : Opens Try.prog 3 ty3 := opens_int Try.underlying3 (by kernel_rfl)
abbrev ty9 : Ty (ByteArray) := tStr
theorem good9 : ty9.Good := tStr_good
theorem op9 : Opens Try.prog 9 ty9 := opens_str Try.underlying9 (by kernel_rfl)
abbrev ty27 : Ty (List (ByteArray)) := (tSlice ty9)
theorem good27 : ty27.Good := tSlice_good good9
theorem op27 : Opens Try.prog 27 ty27 := opens_slice Try.underlying27 (by kernel_rfl) op9 good9 (by decide)
inductive Nd50 where
  | mk (x0 : Int) (x1 : Int) (x2 : Int) (x3 : ByteArray) (x4 : List (ByteArray)) (x5 : List Nd50) (x6 : Int)
def Nd50.parts : Nd50 → (Int) × (Int) × (Int) × (ByteArray) × (List (ByteArray)) × (List Nd50) × (Int)
  | .mk x0 x1 x2 x3 x4 x5 x6 => (x0, x1, x2, x3, x4, x5, x6)
def Nd50.of (p : (Int) × (Int) × (Int) × (ByteArray) × (List (ByteArray)) × (List Nd50) × (Int)) : Nd50 := .mk p.1 p.2.1 p.2.2.1 p.2.2.2.1 p.2.2.2.2.1 p.2.2.2.2.2.1 p.2.2.2.2.2.2
def ty50P : Nat → (Heap → List Value → Nd50 → Prop) × (Nd50 → Prop)
  | 0 => (fun _ _ _ => False, fun _ => False)
  | n + 1 => (fun H cs x => ((tPair ty3 (tPair ty3 (tPair ty3 (tPair ty9 (tPair ty27 (tPair (tSlice ⟨7, (ty50P n).1, (ty50P n).2⟩) ty3)))))) : Ty ((Int) × (Int) × (Int) × (ByteArray) × (List (ByteArray)) × (List Nd50) × (Int))).R H cs x.parts, fun x => ((tPair ty3 (tPair ty3 (tPair ty3 (tPair ty9 (tPair ty27 (tPair (tSlice ⟨7, (ty50P n).1, (ty50P n).2⟩) ty3)))))) : Ty ((Int) × (Int) × (Int) × (ByteArray) × (List (ByteArray)) × (List Nd50) × (Int))).ok x.parts)
def ty50 (N : Nat) : Ty Nd50 := ⟨7, (ty50P N).1, (ty50P N).2⟩
theorem good50 : ∀ N, (ty50 N).Good
  | 0 => ⟨fun _ h => h.elim, fun h => h.elim, fun h => h.elim⟩
  | n + 1 => Ty.pull_good (T := (tPair ty3 (tPair ty3 (tPair ty3 (tPair ty9 (tPair ty27 (tPair (tSlice ⟨7, (ty50P n).1, (ty50P n).2⟩) ty3))))))) (tPair_good good3 (tPair_good good3 (tPair_good good3 (tPair_good good9 (tPair_good good27 (tPair_good (tSlice_good (good50 n)) good3)))))) Nd50.parts
theorem op50 : ∀ N fuel, fuel ≤ N → OpensE Try.prog 50 (ty50 N) fuel
  | 0, fuel, h => fun enc w0 w ι H cs x hw hn hx => by
    obtain ⟨_, n, hn, _⟩ := DataW.trod_struct Try.underlying50 hx
    omega
  | n + 1, fuel, h => OpensE.pull (T := (tPair ty3 (tPair ty3 (tPair ty3 (tPair ty9 (tPair ty27 (tPair (tSlice ⟨7, (ty50P n).1, (ty50P n).2⟩) ty3))))))) (opens_structE Try.underlying50 (by kernel_rfl) fun k hk => opensF_consE good3 rfl op3.1 (op3.e k) (opensF_consE good3 rfl op3.1 (op3.e k) (opensF_consE good3 rfl op3.1 (op3.e k) (opensF_consE good9 rfl op9.1 (op9.e k) (opensF_consE good27 rfl op27.1 (op27.e k) (opensF_consE (tSlice_good (good50 n)) rfl (show Try.prog.cellsOf 45 = 1 from by kernel_rfl) (opens_sliceE Try.underlying45 (show Try.prog.cellsOf 50 = 7 from by kernel_rfl) (fun m hm => op50 n m (by omega)) (good50 n) (show 0 < 7 from by decide)) (opensF_oneE rfl op3.1 (op3.e k)))))))) Nd50.parts Nd50.of (fun a => rfl)
abbrev ty45 (N : Nat) : Ty (List (Nd50)) := tSlice (ty50 N)
theorem good45 (N : Nat) : (ty45 N).Good := tSlice_good (good50 N)
theorem op45 (N fuel : Nat) (h : fuel ≤ N) : OpensE Try.prog 45 (ty45 N) fuel := opens_sliceE Try.underlying45 (show Try.prog.cellsOf 50 = 7 from by kernel_rfl) (fun m hm => op50 N m (by omega)) (good50 N) (show 0 < 7 from by decide)
abbrev ty47 (N : Nat) : Ty ((Int) × (Int) × (List (Nd50))) := (tPair ty3 (tPair ty3 (ty45 N)))
theorem good47 (N : Nat) : (ty47 N).Good := (tPair_good good3 (tPair_good good3 (good45 N)))
theorem op47 (N fuel : Nat) (h : fuel ≤ N) : OpensE Try.prog 47 (ty47 N) fuel := opens_structE Try.underlying47 (show Try.prog.cellsOf 47 = 3 from by kernel_rfl) fun k hk => opensF_consE good3 rfl op3.1 (op3.e k) (opensF_consE good3 rfl op3.1 (op3.e k) (opensF_oneE rfl (show Try.prog.cellsOf 45 = 1 from by kernel_rfl) (op45 N k (by omega))))
abbrev ty22 (N : Nat) : Ty (List ((Int) × (Int) × (List (Nd50)))) := tSlice (ty47 N)
theorem good22 (N : Nat) : (ty22 N).Good := tSlice_good (good47 N)
theorem op22 (N fuel : Nat) (h : fuel ≤ N) : OpensE Try.prog 22 (ty22 N) fuel := opens_sliceE Try.underlying22 (show Try.prog.cellsOf 47 = 3 from by kernel_rfl) (fun m hm => op47 N m (by omega)) (good47 N) (show 0 < 3 from by decide)
abbrev ty24 (N : Nat) : Ty ((Int) × (List ((Int) × (Int) × (List (Nd50))))) := (tPair ty3 (ty22 N))
theorem good24 (N : Nat) : (ty24 N).Good := (tPair_good good3 (good22 N))
theorem op24 (N fuel : Nat) (h : fuel ≤ N) : OpensE Try.prog 24 (ty24 N) fuel := opens_structE Try.underlying24 (show Try.prog.cellsOf 24 = 2 from by kernel_rfl) fun k hk => opensF_consE good3 rfl op3.1 (op3.e k) (opensF_oneE rfl (show Try.prog.cellsOf 22 = 1 from by kernel_rfl) (op22 N k (by omega)))
abbrev ty39 : Ty ((Int) × (Int) × (Int)) := (tPair ty3 (tPair ty3 ty3))
theorem good39 : ty39.Good := (tPair_good good3 (tPair_good good3 good3))
theorem op39 : Opens Try.prog 39 ty39 := opens_struct Try.underlying39 (by kernel_rfl) (opensF_cons good3 rfl op3 (opensF_cons good3 rfl op3 (opensF_one rfl op3)))
abbrev ty35 : Ty (List ((Int) × (Int) × (Int))) := (tSlice ty39)
theorem good35 : ty35.Good := tSlice_good good39
theorem op35 : Opens Try.prog 35 ty35 := opens_slice Try.underlying35 (by kernel_rfl) op39 good39 (by decide)
abbrev ty37 : Ty ((Int) × (Int) × (Int) × (Int) × (List ((Int) × (Int) × (Int)))) := (tPair ty3 (tPair ty3 (tPair ty3 (tPair ty3 ty35))))
theorem good37 : ty37.Good := (tPair_good good3 (tPair_good good3 (tPair_good good3 (tPair_good good3 good35))))
theorem op37 : Opens Try.prog 37 ty37 := opens_struct Try.underlying37 (by kernel_rfl) (opensF_cons good3 rfl op3 (opensF_cons good3 rfl op3 (opensF_cons good3 rfl op3 (opensF_cons good3 rfl op3 (opensF_one rfl op35)))))
abbrev ty28 : Ty (List ((Int) × (Int) × (Int) × (Int) × (List ((Int) × (Int) × (Int))))) := (tSlice ty37)
theorem good28 : ty28.Good := tSlice_good good37
theorem op28 : Opens Try.prog 28 ty28 := opens_slice Try.underlying28 (by kernel_rfl) op37 good37 (by decide)
abbrev ty30 : Ty ((Int) × (List (ByteArray)) × (List ((Int) × (Int) × (Int) × (Int) × (List ((Int) × (Int) × (Int)))))) := (tPair ty3 (tPair ty27 ty28))
theorem good30 : ty30.Good := (tPair_good good3 (tPair_good good27 good28))
theorem op30 : Opens Try.prog 30 ty30 := opens_struct Try.underlying30 (by kernel_rfl) (opensF_cons good3 rfl op3 (opensF_cons good27 rfl op27 (opensF_one rfl op28)))
end Go.Proofs.Ytmdjepfpgmignaa
