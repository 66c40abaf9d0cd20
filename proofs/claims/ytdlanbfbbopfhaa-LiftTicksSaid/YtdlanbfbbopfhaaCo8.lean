/- Package slices: are two lists alike? -/
import Derived.Test.YtdlanbfbbopfhaaCo7
set_option linter.unusedVariables false
set_option linter.unusedSimpArgs false
set_option maxRecDepth 20000
set_option maxHeartbeats 8000000
namespace Go.Proofs.Ytdlanbfbbopfhaa
open Go Ax
/-- A string of a list of strings. -/
theorem ld_str {H : Heap} {sv : Value} {L : List ByteArray} (h : RL 1 strR H sv L) {i : Nat} {x : ByteArray} (hx : L[i]? = some x) :
    ∃ q, aindexAddr Try.prog 22 sv (.int .i64 (i : Int)) = some q ∧ ∀ H', Grow H H' → aload Try.prog 9 q H' = some (.string x) :=
  h.ld1 (fun _ _ _ h => h) rfl rfl rfl rfl hx
end Go.Proofs.Ytdlanbfbbopfhaa
