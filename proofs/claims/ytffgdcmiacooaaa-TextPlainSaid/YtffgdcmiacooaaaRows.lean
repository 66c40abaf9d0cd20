/-
  No cell of these rows narrows 'for every input' (looked for: loops, veiled, ifaces, maps, wideKeys, modest, calm, conditions, laid).
  DERIVED. THE GIVEN ROWS OF THIS SEAT. 4 by the template 'for every input the law returns true; each argument reads behind the call as it read before'; 0 by the template 'total and deterministic' (their statements: YtffgdcmiacooaaaTotals.lean).
  GIVEN WITH THE SEED: the statements are not yours to turn. If you find one false, say at which input.
  Laid BY PROGRAM, IN A SANDBOX (cutbox-rows.mjs): the forced cells as the released guide's own fill.sh prints them over the translation 1244f8fea18467e0… (all of the seat's roots in one cut). By AI agents, Wed Nov 11 2026. No macro, syntax, notation, axiom, sorry.
-/
import Derived.Test.YtffgdcmiacooaaaChecked
import GoSem.Claim
import GoSem.ClaimJoined
import GoSem.ClaimMapViews
import Derived.JoinedTies
import Derived.KernelRfl
namespace Go.Proofs.Ytffgdcmiacooaaa
/- THE CELL 'sum', in the pinned program and in every row, IS THE sha256 OF THE DUMP (.gsa) THAT YtffgdcmiacooaaaProg.lean LOADS. Nothing in Lean hashes anything: it is a label: what it is worth is what the hold of that sum in a sandbox is worth. -/
noncomputable def Try.pinned : Pinned := { name := "ytffgdcmiacooaaa", sum := "1244f8fea18467e09eaef25403677acafd425eb094ac863310751470acb83341", checked := Try.checked }
namespace Rows
def none {H : Type} : Left H := { results := [], args := [] }

/-- 'proteuslaw02.TextTakes': WHATEVER THE INPUT: true; the input reads as it did. -/
def textTakesSpec : ChangeSpec := { name := "textTakes", fn := fun _ => fun
  | [d] => { results := [.lit (.bool true)], args := [d] }
  | _ => none }
def textTakesRow : OpenClaim := { program := "ytffgdcmiacooaaa", sum := "1244f8fea18467e09eaef25403677acafd425eb094ac863310751470acb83341", func := "proteus/proteuslaw02.TextTakes", spec := "textTakes", inPlace := ["internal/abi.NoEscape"], apart := false }
def TextTakesSaid : Prop := textTakesRow.holds Try.pinned (OpenSpec.ofChange textTakesSpec)

/-- ITS FALSE NEIGHBOUR: 'it returns false'. Refute it at one input. -/
def textTakesWrong : ChangeSpec := { name := "textTakes", fn := fun _ => fun
  | [d] => { results := [.lit (.bool false)], args := [d] }
  | _ => none }
def TextTakesWrongFalsely : Prop := textTakesRow.holds Try.pinned (OpenSpec.ofChange textTakesWrong)

/-- 'proteuslaw02.TextQuotes': WHATEVER THE INPUT: true; the input reads as it did. -/
def textQuotesSpec : ChangeSpec := { name := "textQuotes", fn := fun _ => fun
  | [d] => { results := [.lit (.bool true)], args := [d] }
  | _ => none }
def textQuotesRow : OpenClaim := { program := "ytffgdcmiacooaaa", sum := "1244f8fea18467e09eaef25403677acafd425eb094ac863310751470acb83341", func := "proteus/proteuslaw02.TextQuotes", spec := "textQuotes", inPlace := ["internal/abi.NoEscape"], apart := false }
def TextQuotesSaid : Prop := textQuotesRow.holds Try.pinned (OpenSpec.ofChange textQuotesSpec)

/-- ITS FALSE NEIGHBOUR: 'it returns false'. Refute it at one input. -/
def textQuotesWrong : ChangeSpec := { name := "textQuotes", fn := fun _ => fun
  | [d] => { results := [.lit (.bool false)], args := [d] }
  | _ => none }
def TextQuotesWrongFalsely : Prop := textQuotesRow.holds Try.pinned (OpenSpec.ofChange textQuotesWrong)

/-- 'proteuslaw02.TextBack': WHATEVER THE INPUT: true; the input reads as it did. -/
def textBackSpec : ChangeSpec := { name := "textBack", fn := fun _ => fun
  | [d1, d2] => { results := [.lit (.bool true)], args := [d1, d2] }
  | _ => none }
def textBackRow : OpenClaim := { program := "ytffgdcmiacooaaa", sum := "1244f8fea18467e09eaef25403677acafd425eb094ac863310751470acb83341", func := "proteus/proteuslaw02.TextBack", spec := "textBack", inPlace := ["internal/abi.NoEscape"], apart := false }
def TextBackSaid : Prop := textBackRow.holds Try.pinned (OpenSpec.ofChange textBackSpec)

/-- ITS FALSE NEIGHBOUR: 'it returns false'. Refute it at one input. -/
def textBackWrong : ChangeSpec := { name := "textBack", fn := fun _ => fun
  | [d1, d2] => { results := [.lit (.bool false)], args := [d1, d2] }
  | _ => none }
def TextBackWrongFalsely : Prop := textBackRow.holds Try.pinned (OpenSpec.ofChange textBackWrong)

/-- 'proteuslaw02.TextPlain': WHATEVER THE INPUT: true; the input reads as it did. -/
def textPlainSpec : ChangeSpec := { name := "textPlain", fn := fun _ => fun
  | [d] => { results := [.lit (.bool true)], args := [d] }
  | _ => none }
def textPlainRow : OpenClaim := { program := "ytffgdcmiacooaaa", sum := "1244f8fea18467e09eaef25403677acafd425eb094ac863310751470acb83341", func := "proteus/proteuslaw02.TextPlain", spec := "textPlain", inPlace := ["internal/abi.NoEscape"], apart := false }
def TextPlainSaid : Prop := textPlainRow.holds Try.pinned (OpenSpec.ofChange textPlainSpec)

/-- ITS FALSE NEIGHBOUR: 'it returns false'. Refute it at one input. -/
def textPlainWrong : ChangeSpec := { name := "textPlain", fn := fun _ => fun
  | [d] => { results := [.lit (.bool false)], args := [d] }
  | _ => none }
def TextPlainWrongFalsely : Prop := textPlainRow.holds Try.pinned (OpenSpec.ofChange textPlainWrong)

/- THE SECOND FORM. 'bulk': how many values and letters a reading holds, each counted each time it is reached (what is shared counts as often as it is met; a slice's spare places count too). A statement '..UptoSaid' is the law's where the arguments, and the package variables that the reading takes, are together of bulk at most 1048576: NARROWER than '..Said'. Prove '..Said' where nothing that the law and all that it calls make is longer than what came in: it says more and counts as full. Else prove '..UptoSaid'. A law counts once. -/
mutual
def uptoBulk {H : Type} : DataW H → Nat
  | .lit (.string bytes) => bytes.length + 1
  | .lit _ => 1
  | .nil => 1
  | .ptr d => uptoBulk d + 1
  | .slice elems spare => uptoBulkAll elems + uptoBulkAll spare + 1
  | .agg parts => uptoBulkAll parts + 1
  | .iface _ d => uptoBulk d + 1
  | .map entries => uptoBulkEntries entries + 1
  | .held _ => 1
def uptoBulkAll {H : Type} : List (DataW H) → Nat
  | [] => 0
  | d :: r => uptoBulk d + uptoBulkAll r
def uptoBulkEntries {H : Type} : List (Lit × DataW H) → Nat
  | [] => 0
  | x :: r => uptoBulkEntry x + uptoBulkEntries r
def uptoBulkEntry {H : Type} : Lit × DataW H → Nat
  | (.string bytes, d) => bytes.length + uptoBulk d + 1
  | (_, d) => uptoBulk d + 1
 end
def uptoSmall : (H : Type) → List (DataW H) → Bool := fun _ ds => decide (uptoBulkAll ds ≤ 1048576)
def OpenSpec.upto (s : _root_.Go.ChangeSpec) : _root_.Go.OpenSpec := { _root_.Go.OpenSpec.ofChange s with cond := some uptoSmall }

/-- 'proteuslaw02.TextTakes', WHERE WHAT IT READS IS OF BULK AT MOST 1048576: true; the input reads as it did. -/
def textTakesUptoRow : OpenClaim := { program := "ytffgdcmiacooaaa", sum := "1244f8fea18467e09eaef25403677acafd425eb094ac863310751470acb83341", func := "proteus/proteuslaw02.TextTakes", spec := "textTakes", inPlace := ["internal/abi.NoEscape"], apart := false, narrowed := true }
def TextTakesUptoSaid : Prop := textTakesUptoRow.holds Try.pinned (OpenSpec.upto textTakesSpec)

/-- 'proteuslaw02.TextQuotes', WHERE WHAT IT READS IS OF BULK AT MOST 1048576: true; the input reads as it did. -/
def textQuotesUptoRow : OpenClaim := { program := "ytffgdcmiacooaaa", sum := "1244f8fea18467e09eaef25403677acafd425eb094ac863310751470acb83341", func := "proteus/proteuslaw02.TextQuotes", spec := "textQuotes", inPlace := ["internal/abi.NoEscape"], apart := false, narrowed := true }
def TextQuotesUptoSaid : Prop := textQuotesUptoRow.holds Try.pinned (OpenSpec.upto textQuotesSpec)

/-- 'proteuslaw02.TextBack', WHERE WHAT IT READS IS OF BULK AT MOST 1048576: true; the input reads as it did. -/
def textBackUptoRow : OpenClaim := { program := "ytffgdcmiacooaaa", sum := "1244f8fea18467e09eaef25403677acafd425eb094ac863310751470acb83341", func := "proteus/proteuslaw02.TextBack", spec := "textBack", inPlace := ["internal/abi.NoEscape"], apart := false, narrowed := true }
def TextBackUptoSaid : Prop := textBackUptoRow.holds Try.pinned (OpenSpec.upto textBackSpec)

/-- 'proteuslaw02.TextPlain', WHERE WHAT IT READS IS OF BULK AT MOST 1048576: true; the input reads as it did. -/
def textPlainUptoRow : OpenClaim := { program := "ytffgdcmiacooaaa", sum := "1244f8fea18467e09eaef25403677acafd425eb094ac863310751470acb83341", func := "proteus/proteuslaw02.TextPlain", spec := "textPlain", inPlace := ["internal/abi.NoEscape"], apart := false, narrowed := true }
def TextPlainUptoSaid : Prop := textPlainUptoRow.holds Try.pinned (OpenSpec.upto textPlainSpec)

end Rows
end Go.Proofs.Ytffgdcmiacooaaa
