/-
  No cell of these rows narrows 'for every input' (looked for: loops, veiled, ifaces, maps, wideKeys, modest, calm, conditions, laid).
  DERIVED. THE GIVEN ROWS OF THIS SEAT. 3 by the template 'for every input the law returns true; each argument reads behind the call as it read before'; 0 by the template 'total and deterministic' (their statements: YtfobbmllbbckkaaTotals.lean).
  GIVEN WITH THE SEED: the statements are not yours to turn. If you find one false, say at which input.
  Laid BY PROGRAM, IN A SANDBOX (cutbox-rows.mjs): the forced cells as the released guide's own fill.sh prints them over the translation 8fcc8213e13b2f38… (all of the seat's roots in one cut). By AI agents, Wed Nov 11 2026. No macro, syntax, notation, axiom, sorry.
-/
import Derived.Test.YtfobbmllbbckkaaChecked
import GoSem.Claim
import GoSem.ClaimJoined
import GoSem.ClaimMapViews
import Derived.JoinedTies
import Derived.KernelRfl
namespace Go.Proofs.Ytfobbmllbbckkaa
/- THE CELL 'sum', in the pinned program and in every row, IS THE sha256 OF THE DUMP (.gsa) THAT YtfobbmllbbckkaaProg.lean LOADS. Nothing in Lean hashes anything: it is a label: what it is worth is what the hold of that sum in a sandbox is worth. -/
noncomputable def Try.pinned : Pinned := { name := "ytfobbmllbbckkaa", sum := "8fcc8213e13b2f38845abd42a3fce3111612c528c29ff8f8ee13c7f06dc3c83f", checked := Try.checked }
namespace Rows
def none {H : Type} : Left H := { results := [], args := [] }

/-- 'proteuslaw20.IrChecks': WHATEVER THE INPUT: true; the input reads as it did. -/
def irChecksSpec : ChangeSpec := { name := "irChecks", fn := fun _ => fun
  | [d1, d2] => { results := [.lit (.bool true)], args := [d1, d2] }
  | _ => none }
def irChecksRow : OpenClaim := { program := "ytfobbmllbbckkaa", sum := "8fcc8213e13b2f38845abd42a3fce3111612c528c29ff8f8ee13c7f06dc3c83f", func := "proteus/proteuslaw20.IrChecks", spec := "irChecks", unfollowed := true, recurses := true, apart := false }
def IrChecksSaid : Prop := irChecksRow.holds Try.pinned (OpenSpec.ofChange irChecksSpec)

/-- ITS FALSE NEIGHBOUR: 'it returns false'. Refute it at one input. -/
def irChecksWrong : ChangeSpec := { name := "irChecks", fn := fun _ => fun
  | [d1, d2] => { results := [.lit (.bool false)], args := [d1, d2] }
  | _ => none }
def IrChecksWrongFalsely : Prop := irChecksRow.holds Try.pinned (OpenSpec.ofChange irChecksWrong)

/-- 'proteuslaw20.IrSafe': WHATEVER THE INPUT: true; the input reads as it did. -/
def irSafeSpec : ChangeSpec := { name := "irSafe", fn := fun _ => fun
  | [d1, d2] => { results := [.lit (.bool true)], args := [d1, d2] }
  | _ => none }
def irSafeRow : OpenClaim := { program := "ytfobbmllbbckkaa", sum := "8fcc8213e13b2f38845abd42a3fce3111612c528c29ff8f8ee13c7f06dc3c83f", func := "proteus/proteuslaw20.IrSafe", spec := "irSafe", unfollowed := true, recurses := true, apart := false }
def IrSafeSaid : Prop := irSafeRow.holds Try.pinned (OpenSpec.ofChange irSafeSpec)

/-- ITS FALSE NEIGHBOUR: 'it returns false'. Refute it at one input. -/
def irSafeWrong : ChangeSpec := { name := "irSafe", fn := fun _ => fun
  | [d1, d2] => { results := [.lit (.bool false)], args := [d1, d2] }
  | _ => none }
def IrSafeWrongFalsely : Prop := irSafeRow.holds Try.pinned (OpenSpec.ofChange irSafeWrong)

/-- 'proteuslaw20.IrTexts': WHATEVER THE INPUT: true; the input reads as it did. -/
def irTextsSpec : ChangeSpec := { name := "irTexts", fn := fun _ => fun
  | [d1, d2] => { results := [.lit (.bool true)], args := [d1, d2] }
  | _ => none }
def irTextsRow : OpenClaim := { program := "ytfobbmllbbckkaa", sum := "8fcc8213e13b2f38845abd42a3fce3111612c528c29ff8f8ee13c7f06dc3c83f", func := "proteus/proteuslaw20.IrTexts", spec := "irTexts", inPlace := ["internal/abi.NoEscape"], unfollowed := true, recurses := true, apart := false }
def IrTextsSaid : Prop := irTextsRow.holds Try.pinned (OpenSpec.ofChange irTextsSpec)

/-- ITS FALSE NEIGHBOUR: 'it returns false'. Refute it at one input. -/
def irTextsWrong : ChangeSpec := { name := "irTexts", fn := fun _ => fun
  | [d1, d2] => { results := [.lit (.bool false)], args := [d1, d2] }
  | _ => none }
def IrTextsWrongFalsely : Prop := irTextsRow.holds Try.pinned (OpenSpec.ofChange irTextsWrong)

/- THE SECOND FORM. 'bulk': how many values and letters a reading holds, each counted each time it is reached (what is shared counts as often as it is met; a slice's spare places count too). A statement '..UptoSaid' is the law's where the arguments, and the package variables that the reading takes, are together of bulk at most 1048576: NARROWER than '..Said'. Prove '..Said' where nothing that the law and all that it calls make is longer than what came in: it says more and counts as full. Else prove '..UptoSaid'. A law counts once. -/
mutual
def uptoBulk {H : Type} : DataW H → Nat
  | .lit (.string bytes) => bytes.length + 1
  | .lit _ => 1
  | .nil => 1
  | .ptr d => uptoBulk d + 1
  | .slice elems spare => uptoBulkAll elems + uptoBulkAll spare + 1
  | .agg parts => uptoBulkAll parts + 1
  | .iface _ d => uptoBulk d + 1
  | .map entries => uptoBulkEntries entries + 1
  | .held _ => 1
def uptoBulkAll {H : Type} : List (DataW H) → Nat
  | [] => 0
  | d :: r => uptoBulk d + uptoBulkAll r
def uptoBulkEntries {H : Type} : List (Lit × DataW H) → Nat
  | [] => 0
  | x :: r => uptoBulkEntry x + uptoBulkEntries r
def uptoBulkEntry {H : Type} : Lit × DataW H → Nat
  | (.string bytes, d) => bytes.length + uptoBulk d + 1
  | (_, d) => uptoBulk d + 1
 end
def uptoSmall : (H : Type) → List (DataW H) → Bool := fun _ ds => decide (uptoBulkAll ds ≤ 1048576)
def OpenSpec.upto (s : _root_.Go.ChangeSpec) : _root_.Go.OpenSpec := { _root_.Go.OpenSpec.ofChange s with cond := some uptoSmall }

/-- 'proteuslaw20.IrChecks', WHERE WHAT IT READS IS OF BULK AT MOST 1048576: true; the input reads as it did. -/
def irChecksUptoRow : OpenClaim := { program := "ytfobbmllbbckkaa", sum := "8fcc8213e13b2f38845abd42a3fce3111612c528c29ff8f8ee13c7f06dc3c83f", func := "proteus/proteuslaw20.IrChecks", spec := "irChecks", unfollowed := true, recurses := true, apart := false, narrowed := true }
def IrChecksUptoSaid : Prop := irChecksUptoRow.holds Try.pinned (OpenSpec.upto irChecksSpec)

/-- 'proteuslaw20.IrSafe', WHERE WHAT IT READS IS OF BULK AT MOST 1048576: true; the input reads as it did. -/
def irSafeUptoRow : OpenClaim := { program := "ytfobbmllbbckkaa", sum := "8fcc8213e13b2f38845abd42a3fce3111612c528c29ff8f8ee13c7f06dc3c83f", func := "proteus/proteuslaw20.IrSafe", spec := "irSafe", unfollowed := true, recurses := true, apart := false, narrowed := true }
def IrSafeUptoSaid : Prop := irSafeUptoRow.holds Try.pinned (OpenSpec.upto irSafeSpec)

/-- 'proteuslaw20.IrTexts', WHERE WHAT IT READS IS OF BULK AT MOST 1048576: true; the input reads as it did. -/
def irTextsUptoRow : OpenClaim := { program := "ytfobbmllbbckkaa", sum := "8fcc8213e13b2f38845abd42a3fce3111612c528c29ff8f8ee13c7f06dc3c83f", func := "proteus/proteuslaw20.IrTexts", spec := "irTexts", inPlace := ["internal/abi.NoEscape"], unfollowed := true, recurses := true, apart := false, narrowed := true }
def IrTextsUptoSaid : Prop := irTextsUptoRow.holds Try.pinned (OpenSpec.upto irTextsSpec)

end Rows
end Go.Proofs.Ytfobbmllbbckkaa
