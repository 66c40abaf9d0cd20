/-
  No cell of these rows narrows 'for every input' (looked for: loops, veiled, ifaces, maps, wideKeys, modest, calm, conditions, laid).
  DERIVED. THE GIVEN ROWS OF THIS SEAT. 4 by the template 'for every input the law returns true; each argument reads behind the call as it read before'; 0 by the template 'total and deterministic' (their statements: YtdceiblihamfmaaTotals.lean).
  GIVEN WITH THE SEED: the statements are not yours to turn. If you find one false, say at which input.
  Laid BY PROGRAM, IN A SANDBOX (cutbox-rows.mjs): the forced cells as the released guide's own fill.sh prints them over the translation 1f68e3272c33d215… (all of the seat's roots in one cut). By AI agents, Wed Nov 11 2026. No macro, syntax, notation, axiom, sorry.
-/
import Derived.Test.YtdceiblihamfmaaChecked
import GoSem.Claim
import GoSem.ClaimJoined
import GoSem.ClaimMapViews
import Derived.JoinedTies
import Derived.KernelRfl
namespace Go.Proofs.Ytdceiblihamfmaa
/- THE CELL 'sum', in the pinned program and in every row, IS THE sha256 OF THE DUMP (.gsa) THAT YtdceiblihamfmaaProg.lean LOADS. Nothing in Lean hashes anything: it is a label: what it is worth is what the hold of that sum in a sandbox is worth. -/
noncomputable def Try.pinned : Pinned := { name := "ytdceiblihamfmaa", sum := "1f68e3272c33d215975dadd7acb86ce25833bff3e75382b4ab93f87bc51808fb", checked := Try.checked }
namespace Rows
def none {H : Type} : Left H := { results := [], args := [] }

/-- 'proteuslaw27.PolicyTakes': WHATEVER THE INPUT: true; the input reads as it did. -/
def policyTakesSpec : ChangeSpec := { name := "policyTakes", fn := fun _ => fun
  | [d1, d2, d3] => { results := [.lit (.bool true)], args := [d1, d2, d3] }
  | _ => none }
def policyTakesRow : OpenClaim := { program := "ytdceiblihamfmaa", sum := "1f68e3272c33d215975dadd7acb86ce25833bff3e75382b4ab93f87bc51808fb", func := "proteus/proteuslaw27.PolicyTakes", spec := "policyTakes", apart := false }
def PolicyTakesSaid : Prop := policyTakesRow.holds Try.pinned (OpenSpec.ofChange policyTakesSpec)

/-- ITS FALSE NEIGHBOUR: 'it returns false'. Refute it at one input. -/
def policyTakesWrong : ChangeSpec := { name := "policyTakes", fn := fun _ => fun
  | [d1, d2, d3] => { results := [.lit (.bool false)], args := [d1, d2, d3] }
  | _ => none }
def PolicyTakesWrongFalsely : Prop := policyTakesRow.holds Try.pinned (OpenSpec.ofChange policyTakesWrong)

/-- 'proteuslaw27.PolicyPicks': WHATEVER THE INPUT: true; the input reads as it did. -/
def policyPicksSpec : ChangeSpec := { name := "policyPicks", fn := fun _ => fun
  | [d1, d2] => { results := [.lit (.bool true)], args := [d1, d2] }
  | _ => none }
def policyPicksRow : OpenClaim := { program := "ytdceiblihamfmaa", sum := "1f68e3272c33d215975dadd7acb86ce25833bff3e75382b4ab93f87bc51808fb", func := "proteus/proteuslaw27.PolicyPicks", spec := "policyPicks", apart := false }
def PolicyPicksSaid : Prop := policyPicksRow.holds Try.pinned (OpenSpec.ofChange policyPicksSpec)

/-- ITS FALSE NEIGHBOUR: 'it returns false'. Refute it at one input. -/
def policyPicksWrong : ChangeSpec := { name := "policyPicks", fn := fun _ => fun
  | [d1, d2] => { results := [.lit (.bool false)], args := [d1, d2] }
  | _ => none }
def PolicyPicksWrongFalsely : Prop := policyPicksRow.holds Try.pinned (OpenSpec.ofChange policyPicksWrong)

/-- 'proteuslaw27.PolicyPlays': WHATEVER THE INPUT: true; the input reads as it did. -/
def policyPlaysSpec : ChangeSpec := { name := "policyPlays", fn := fun _ => fun
  | [d1, d2, d3] => { results := [.lit (.bool true)], args := [d1, d2, d3] }
  | _ => none }
def policyPlaysRow : OpenClaim := { program := "ytdceiblihamfmaa", sum := "1f68e3272c33d215975dadd7acb86ce25833bff3e75382b4ab93f87bc51808fb", func := "proteus/proteuslaw27.PolicyPlays", spec := "policyPlays", apart := false }
def PolicyPlaysSaid : Prop := policyPlaysRow.holds Try.pinned (OpenSpec.ofChange policyPlaysSpec)

/-- ITS FALSE NEIGHBOUR: 'it returns false'. Refute it at one input. -/
def policyPlaysWrong : ChangeSpec := { name := "policyPlays", fn := fun _ => fun
  | [d1, d2, d3] => { results := [.lit (.bool false)], args := [d1, d2, d3] }
  | _ => none }
def PolicyPlaysWrongFalsely : Prop := policyPlaysRow.holds Try.pinned (OpenSpec.ofChange policyPlaysWrong)

/-- 'proteuslaw27.PolicyNone': WHATEVER THE INPUT: true; the input reads as it did. -/
def policyNoneSpec : ChangeSpec := { name := "policyNone", fn := fun _ => fun
  | [d] => { results := [.lit (.bool true)], args := [d] }
  | _ => none }
def policyNoneRow : OpenClaim := { program := "ytdceiblihamfmaa", sum := "1f68e3272c33d215975dadd7acb86ce25833bff3e75382b4ab93f87bc51808fb", func := "proteus/proteuslaw27.PolicyNone", spec := "policyNone", apart := false }
def PolicyNoneSaid : Prop := policyNoneRow.holds Try.pinned (OpenSpec.ofChange policyNoneSpec)

/-- ITS FALSE NEIGHBOUR: 'it returns false'. Refute it at one input. -/
def policyNoneWrong : ChangeSpec := { name := "policyNone", fn := fun _ => fun
  | [d] => { results := [.lit (.bool false)], args := [d] }
  | _ => none }
def PolicyNoneWrongFalsely : Prop := policyNoneRow.holds Try.pinned (OpenSpec.ofChange policyNoneWrong)

/- THE SECOND FORM. 'bulk': how many values and letters a reading holds, each counted each time it is reached (what is shared counts as often as it is met; a slice's spare places count too). A statement '..UptoSaid' is the law's where the arguments, and the package variables that the reading takes, are together of bulk at most 1048576: NARROWER than '..Said'. Prove '..Said' where nothing that the law and all that it calls make is longer than what came in: it says more and counts as full. Else prove '..UptoSaid'. A law counts once. -/
mutual
def uptoBulk {H : Type} : DataW H → Nat
  | .lit (.string bytes) => bytes.length + 1
  | .lit _ => 1
  | .nil => 1
  | .ptr d => uptoBulk d + 1
  | .slice elems spare => uptoBulkAll elems + uptoBulkAll spare + 1
  | .agg parts => uptoBulkAll parts + 1
  | .iface _ d => uptoBulk d + 1
  | .map entries => uptoBulkEntries entries + 1
  | .held _ => 1
def uptoBulkAll {H : Type} : List (DataW H) → Nat
  | [] => 0
  | d :: r => uptoBulk d + uptoBulkAll r
def uptoBulkEntries {H : Type} : List (Lit × DataW H) → Nat
  | [] => 0
  | x :: r => uptoBulkEntry x + uptoBulkEntries r
def uptoBulkEntry {H : Type} : Lit × DataW H → Nat
  | (.string bytes, d) => bytes.length + uptoBulk d + 1
  | (_, d) => uptoBulk d + 1
 end
def uptoSmall : (H : Type) → List (DataW H) → Bool := fun _ ds => decide (uptoBulkAll ds ≤ 1048576)
def OpenSpec.upto (s : _root_.Go.ChangeSpec) : _root_.Go.OpenSpec := { _root_.Go.OpenSpec.ofChange s with cond := some uptoSmall }

/-- 'proteuslaw27.PolicyTakes', WHERE WHAT IT READS IS OF BULK AT MOST 1048576: true; the input reads as it did. -/
def policyTakesUptoRow : OpenClaim := { program := "ytdceiblihamfmaa", sum := "1f68e3272c33d215975dadd7acb86ce25833bff3e75382b4ab93f87bc51808fb", func := "proteus/proteuslaw27.PolicyTakes", spec := "policyTakes", apart := false, narrowed := true }
def PolicyTakesUptoSaid : Prop := policyTakesUptoRow.holds Try.pinned (OpenSpec.upto policyTakesSpec)

/-- 'proteuslaw27.PolicyPicks', WHERE WHAT IT READS IS OF BULK AT MOST 1048576: true; the input reads as it did. -/
def policyPicksUptoRow : OpenClaim := { program := "ytdceiblihamfmaa", sum := "1f68e3272c33d215975dadd7acb86ce25833bff3e75382b4ab93f87bc51808fb", func := "proteus/proteuslaw27.PolicyPicks", spec := "policyPicks", apart := false, narrowed := true }
def PolicyPicksUptoSaid : Prop := policyPicksUptoRow.holds Try.pinned (OpenSpec.upto policyPicksSpec)

/-- 'proteuslaw27.PolicyPlays', WHERE WHAT IT READS IS OF BULK AT MOST 1048576: true; the input reads as it did. -/
def policyPlaysUptoRow : OpenClaim := { program := "ytdceiblihamfmaa", sum := "1f68e3272c33d215975dadd7acb86ce25833bff3e75382b4ab93f87bc51808fb", func := "proteus/proteuslaw27.PolicyPlays", spec := "policyPlays", apart := false, narrowed := true }
def PolicyPlaysUptoSaid : Prop := policyPlaysUptoRow.holds Try.pinned (OpenSpec.upto policyPlaysSpec)

/-- 'proteuslaw27.PolicyNone', WHERE WHAT IT READS IS OF BULK AT MOST 1048576: true; the input reads as it did. -/
def policyNoneUptoRow : OpenClaim := { program := "ytdceiblihamfmaa", sum := "1f68e3272c33d215975dadd7acb86ce25833bff3e75382b4ab93f87bc51808fb", func := "proteus/proteuslaw27.PolicyNone", spec := "policyNone", apart := false, narrowed := true }
def PolicyNoneUptoSaid : Prop := policyNoneUptoRow.holds Try.pinned (OpenSpec.upto policyNoneSpec)

end Rows
end Go.Proofs.Ytdceiblihamfmaa
