/- The types of the laws' parameters, as relations between abstract memory and plain data. -/
import Derived.Test.YtmglmjbjgfbdjaaProg
import Derived.Test.YtmglmjbjgfbdjaaJLx1
set_option maxRecDepth 100000
namespace Go.Proofs.Ytmglmjbjgfbdjaa
open Go Ax
abbrev ty3 : Ty (Int) := (tInt .i64)
theorem good3 : ty3.Good := tInt_good _
theorem op3 : Opens Try.prog 3 ty3 := opens_int Try.underlying3 (by kernel_rfl)
abbrev ty9 : Ty (ByteArray) := tStr
theorem good9 : ty9.Good := tStr_good
theorem op9 : Opens Try.prog 9 ty9 := opens_str Try.underlying9 (by kernel_rfl)
abbrev ty22 : Ty (List (ByteArray)) := (tSlice ty9)
theorem good22 : ty22.Good := tSlice_good good9
theorem op22 : Opens Try.prog 22 ty22 := opens_slice Try.underlying22 (by kernel_rfl) op9 good9 (by decide)
inductive Nd25 where
  | mk (x0 : Int) (x1 : Int) (x2 : Int) (x3 : ByteArray) (x4 : List (ByteArray)) (x5 : List Nd25) (x6 : Int)
def Nd25.parts : Nd25 → (Int) × (Int) × (Int) × (ByteArray) × (List (ByteArray)) × (List Nd25) × (Int)
  | .mk x0 x1 x2 x3 x4 x5 x6 => (x0, x1, x2, x3, x4, x5, x6)
def Nd25.of (p : (Int) × (Int) × (Int) × (ByteArray) × (List (ByteArray)) × (List Nd25) × (Int)) : Nd25 := .mk p.1 p.2.1 p.2.2.1 p.2.2.2.1 p.2.2.2.2.1 p.2.2.2.2.2.1 p.2.2.2.2.2.2
def ty25P : Nat → (Heap → List Value → Nd25 → Prop) × (Nd25 → Prop)
  | 0 => (fun _ _ _ => False, fun _ => False)
  | n + 1 => (fun H cs x => ((tPair ty3 (tPair ty3 (tPair ty3 (tPair ty9 (tPair ty22 (tPair (tSlice ⟨7, (ty25P n).1, (ty25P n).2⟩) ty3)))))) : Ty ((Int) × (Int) × (Int) × (ByteArray) × (List (ByteArray)) × (List Nd25) × (Int))).R H cs x.parts, fun x => ((tPair ty3 (tPair ty3 (tPair ty3 (tPair ty9 (tPair ty22 (tPair (tSlice ⟨7, (ty25P n).1, (ty25P n).2⟩) ty3)))))) : Ty ((Int) × (Int) × (Int) × (ByteArray) × (List (ByteArray)) × (List Nd25) × (Int))).ok x.parts)
def ty25 (N : Nat) : Ty Nd25 := ⟨7, (ty25P N).1, (ty25P N).2⟩
theorem good25 : ∀ N, (ty25 N).Good
  | 0 => ⟨fun _ h => h.elim, fun h => h.elim, fun h => h.elim⟩
  | n + 1 => Ty.pull_good (T := (tPair ty3 (tPair ty3 (tPair ty3 (tPair ty9 (tPair ty22 (tPair (tSlice ⟨7, (ty25P n).1, (ty25P n).2⟩) ty3))))))) (tPair_good good3 (tPair_good good3 (tPair_good good3 (tPair_good good9 (tPair_good good22 (tPair_good (tSlice_good (good25 n)) good3)))))) Nd25.parts
theorem op25 : ∀ N fuel, fuel ≤ N → OpensE Try.prog 25 (ty25 N) fuel
  | 0, fuel, h => fun enc w0 w ι H cs x hw hn hx => by
    obtain ⟨_, n, hn, _⟩ := DataW.trod_struct Try.underlying25 hx
    omega
  | n + 1, fuel, h => OpensE.pull (T := (tPair ty3 (tPair ty3 (tPair ty3 (tPair ty9 (tPair ty22 (tPair (tSlice ⟨7, (ty25P n).1, (ty25P n).2⟩) ty3))))))) (opens_structE Try.underlying25 (by kernel_rfl) fun k hk => opensF_consE good3 rfl op3.1 (op3.e k) (opensF_consE good3 rfl op3.1 (op3.e k) (opensF_consE good3 rfl op3.1 (op3.e k) (opensF_consE good9 rfl op9.1 (op9.e k) (opensF_consE good22 rfl op22.1 (op22.e k) (opensF_consE (tSlice_good (good25 n)) rfl (show Try.prog.cellsOf 23 = 1 from by kernel_rfl) (opens_sliceE Try.underlying23 (show Try.prog.cellsOf 25 = 7 from by kernel_rfl) (fun m hm => op25 n m (by omega)) (good25 n) (show 0 < 7 from by decide)) (opensF_oneE rfl op3.1 (op3.e k)))))))) Nd25.parts Nd25.of (fun a => rfl)
abbrev ty23 (N : Nat) : Ty (List (Nd25)) := tSlice (ty25 N)
theorem good23 (N : Nat) : (ty23 N).Good := tSlice_good (good25 N)
theorem op23 (N fuel : Nat) (h : fuel ≤ N) : OpensE Try.prog 23 (ty23 N) fuel := opens_sliceE Try.underlying23 (show Try.prog.cellsOf 25 = 7 from by kernel_rfl) (fun m hm => op25 N m (by omega)) (good25 N) (show 0 < 7 from by decide)
end Go.Proofs.Ytmglmjbjgfbdjaa
