/-
  No cell of these rows narrows 'for every input' (looked for: loops, veiled, ifaces, maps, wideKeys, modest, calm, conditions, laid).
  DERIVED. THE GIVEN ROWS OF THIS SEAT. 4 by the template 'for every input the law returns true; each argument reads behind the call as it read before'; 0 by the template 'total and deterministic' (their statements: YtnjokekdoaflhaaTotals.lean).
  GIVEN WITH THE SEED: the statements are not yours to turn. If you find one false, say at which input.
  Laid BY PROGRAM, IN A SANDBOX (cutbox-rows.mjs): the forced cells as the released guide's own fill.sh prints them over the translation 10b8b62b5a3b645e… (all of the seat's roots in one cut). By AI agents, Wed Nov 11 2026. No macro, syntax, notation, axiom, sorry.
-/
import Derived.Test.YtnjokekdoaflhaaChecked
import GoSem.Claim
import GoSem.ClaimJoined
import GoSem.ClaimMapViews
import Derived.JoinedTies
import Derived.KernelRfl
namespace Go.Proofs.Ytnjokekdoaflhaa
/- THE CELL 'sum', in the pinned program and in every row, IS THE sha256 OF THE DUMP (.gsa) THAT YtnjokekdoaflhaaProg.lean LOADS. Nothing in Lean hashes anything: it is a label: what it is worth is what the hold of that sum in a sandbox is worth. -/
noncomputable def Try.pinned : Pinned := { name := "ytnjokekdoaflhaa", sum := "10b8b62b5a3b645e257c53ea5c3f700e5db1817b063eeadb127a0d094623c68a", checked := Try.checked }
namespace Rows
def none {H : Type} : Left H := { results := [], args := [] }

/-- 'proteuslaw14.CodeEffects': WHATEVER THE INPUT: true; the input reads as it did. -/
def codeEffectsSpec : ChangeSpec := { name := "codeEffects", fn := fun _ => fun
  | [d1, d2] => { results := [.lit (.bool true)], args := [d1, d2] }
  | _ => none }
def codeEffectsRow : OpenClaim := { program := "ytnjokekdoaflhaa", sum := "10b8b62b5a3b645e257c53ea5c3f700e5db1817b063eeadb127a0d094623c68a", func := "proteus/proteuslaw14.CodeEffects", spec := "codeEffects", unfollowed := true, recurses := true, apart := false }
def CodeEffectsSaid : Prop := codeEffectsRow.holds Try.pinned (OpenSpec.ofChange codeEffectsSpec)

/-- ITS FALSE NEIGHBOUR: 'it returns false'. Refute it at one input. -/
def codeEffectsWrong : ChangeSpec := { name := "codeEffects", fn := fun _ => fun
  | [d1, d2] => { results := [.lit (.bool false)], args := [d1, d2] }
  | _ => none }
def CodeEffectsWrongFalsely : Prop := codeEffectsRow.holds Try.pinned (OpenSpec.ofChange codeEffectsWrong)

/-- 'proteuslaw14.CodeDepths': WHATEVER THE INPUT: true; the input reads as it did. -/
def codeDepthsSpec : ChangeSpec := { name := "codeDepths", fn := fun _ => fun
  | [d1, d2] => { results := [.lit (.bool true)], args := [d1, d2] }
  | _ => none }
def codeDepthsRow : OpenClaim := { program := "ytnjokekdoaflhaa", sum := "10b8b62b5a3b645e257c53ea5c3f700e5db1817b063eeadb127a0d094623c68a", func := "proteus/proteuslaw14.CodeDepths", spec := "codeDepths", unfollowed := true, recurses := true, apart := false }
def CodeDepthsSaid : Prop := codeDepthsRow.holds Try.pinned (OpenSpec.ofChange codeDepthsSpec)

/-- ITS FALSE NEIGHBOUR: 'it returns false'. Refute it at one input. -/
def codeDepthsWrong : ChangeSpec := { name := "codeDepths", fn := fun _ => fun
  | [d1, d2] => { results := [.lit (.bool false)], args := [d1, d2] }
  | _ => none }
def CodeDepthsWrongFalsely : Prop := codeDepthsRow.holds Try.pinned (OpenSpec.ofChange codeDepthsWrong)

/-- 'proteuslaw14.CodeSafe': WHATEVER THE INPUT: true; the input reads as it did. -/
def codeSafeSpec : ChangeSpec := { name := "codeSafe", fn := fun _ => fun
  | [d] => { results := [.lit (.bool true)], args := [d] }
  | _ => none }
def codeSafeRow : OpenClaim := { program := "ytnjokekdoaflhaa", sum := "10b8b62b5a3b645e257c53ea5c3f700e5db1817b063eeadb127a0d094623c68a", func := "proteus/proteuslaw14.CodeSafe", spec := "codeSafe", unfollowed := true, recurses := true, apart := false }
def CodeSafeSaid : Prop := codeSafeRow.holds Try.pinned (OpenSpec.ofChange codeSafeSpec)

/-- ITS FALSE NEIGHBOUR: 'it returns false'. Refute it at one input. -/
def codeSafeWrong : ChangeSpec := { name := "codeSafe", fn := fun _ => fun
  | [d] => { results := [.lit (.bool false)], args := [d] }
  | _ => none }
def CodeSafeWrongFalsely : Prop := codeSafeRow.holds Try.pinned (OpenSpec.ofChange codeSafeWrong)

/-- 'proteuslaw14.CodeChecks': WHATEVER THE INPUT: true; the input reads as it did. -/
def codeChecksSpec : ChangeSpec := { name := "codeChecks", fn := fun _ => fun
  | [d1, d2] => { results := [.lit (.bool true)], args := [d1, d2] }
  | _ => none }
def codeChecksRow : OpenClaim := { program := "ytnjokekdoaflhaa", sum := "10b8b62b5a3b645e257c53ea5c3f700e5db1817b063eeadb127a0d094623c68a", func := "proteus/proteuslaw14.CodeChecks", spec := "codeChecks", unfollowed := true, recurses := true, apart := false }
def CodeChecksSaid : Prop := codeChecksRow.holds Try.pinned (OpenSpec.ofChange codeChecksSpec)

/-- ITS FALSE NEIGHBOUR: 'it returns false'. Refute it at one input. -/
def codeChecksWrong : ChangeSpec := { name := "codeChecks", fn := fun _ => fun
  | [d1, d2] => { results := [.lit (.bool false)], args := [d1, d2] }
  | _ => none }
def CodeChecksWrongFalsely : Prop := codeChecksRow.holds Try.pinned (OpenSpec.ofChange codeChecksWrong)

/- THE SECOND FORM. 'bulk': how many values and letters a reading holds, each counted each time it is reached (what is shared counts as often as it is met; a slice's spare places count too). A statement '..UptoSaid' is the law's where the arguments, and the package variables that the reading takes, are together of bulk at most 1048576: NARROWER than '..Said'. Prove '..Said' where nothing that the law and all that it calls make is longer than what came in: it says more and counts as full. Else prove '..UptoSaid'. A law counts once. -/
mutual
def uptoBulk {H : Type} : DataW H → Nat
  | .lit (.string bytes) => bytes.length + 1
  | .lit _ => 1
  | .nil => 1
  | .ptr d => uptoBulk d + 1
  | .slice elems spare => uptoBulkAll elems + uptoBulkAll spare + 1
  | .agg parts => uptoBulkAll parts + 1
  | .iface _ d => uptoBulk d + 1
  | .map entries => uptoBulkEntries entries + 1
  | .held _ => 1
def uptoBulkAll {H : Type} : List (DataW H) → Nat
  | [] => 0
  | d :: r => uptoBulk d + uptoBulkAll r
def uptoBulkEntries {H : Type} : List (Lit × DataW H) → Nat
  | [] => 0
  | x :: r => uptoBulkEntry x + uptoBulkEntries r
def uptoBulkEntry {H : Type} : Lit × DataW H → Nat
  | (.string bytes, d) => bytes.length + uptoBulk d + 1
  | (_, d) => uptoBulk d + 1
 end
def uptoSmall : (H : Type) → List (DataW H) → Bool := fun _ ds => decide (uptoBulkAll ds ≤ 1048576)
def OpenSpec.upto (s : _root_.Go.ChangeSpec) : _root_.Go.OpenSpec := { _root_.Go.OpenSpec.ofChange s with cond := some uptoSmall }

/-- 'proteuslaw14.CodeEffects', WHERE WHAT IT READS IS OF BULK AT MOST 1048576: true; the input reads as it did. -/
def codeEffectsUptoRow : OpenClaim := { program := "ytnjokekdoaflhaa", sum := "10b8b62b5a3b645e257c53ea5c3f700e5db1817b063eeadb127a0d094623c68a", func := "proteus/proteuslaw14.CodeEffects", spec := "codeEffects", unfollowed := true, recurses := true, apart := false, narrowed := true }
def CodeEffectsUptoSaid : Prop := codeEffectsUptoRow.holds Try.pinned (OpenSpec.upto codeEffectsSpec)

/-- 'proteuslaw14.CodeDepths', WHERE WHAT IT READS IS OF BULK AT MOST 1048576: true; the input reads as it did. -/
def codeDepthsUptoRow : OpenClaim := { program := "ytnjokekdoaflhaa", sum := "10b8b62b5a3b645e257c53ea5c3f700e5db1817b063eeadb127a0d094623c68a", func := "proteus/proteuslaw14.CodeDepths", spec := "codeDepths", unfollowed := true, recurses := true, apart := false, narrowed := true }
def CodeDepthsUptoSaid : Prop := codeDepthsUptoRow.holds Try.pinned (OpenSpec.upto codeDepthsSpec)

/-- 'proteuslaw14.CodeSafe', WHERE WHAT IT READS IS OF BULK AT MOST 1048576: true; the input reads as it did. -/
def codeSafeUptoRow : OpenClaim := { program := "ytnjokekdoaflhaa", sum := "10b8b62b5a3b645e257c53ea5c3f700e5db1817b063eeadb127a0d094623c68a", func := "proteus/proteuslaw14.CodeSafe", spec := "codeSafe", unfollowed := true, recurses := true, apart := false, narrowed := true }
def CodeSafeUptoSaid : Prop := codeSafeUptoRow.holds Try.pinned (OpenSpec.upto codeSafeSpec)

/-- 'proteuslaw14.CodeChecks', WHERE WHAT IT READS IS OF BULK AT MOST 1048576: true; the input reads as it did. -/
def codeChecksUptoRow : OpenClaim := { program := "ytnjokekdoaflhaa", sum := "10b8b62b5a3b645e257c53ea5c3f700e5db1817b063eeadb127a0d094623c68a", func := "proteus/proteuslaw14.CodeChecks", spec := "codeChecks", unfollowed := true, recurses := true, apart := false, narrowed := true }
def CodeChecksUptoSaid : Prop := codeChecksUptoRow.holds Try.pinned (OpenSpec.upto codeChecksSpec)

end Rows
end Go.Proofs.Ytnjokekdoaflhaa
