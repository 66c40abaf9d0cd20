/-
  No cell of these rows narrows 'for every input' (looked for: loops, veiled, ifaces, maps, wideKeys, modest, calm, conditions, laid).
  DERIVED. THE GIVEN ROWS OF THIS SEAT. 4 by the template 'for every input the law returns true; each argument reads behind the call as it read before'; 0 by the template 'total and deterministic' (their statements: YtmcniodiehfbpaaTotals.lean).
  GIVEN WITH THE SEED: the statements are not yours to turn. If you find one false, say at which input.
  Laid BY PROGRAM, IN A SANDBOX (cutbox-rows.mjs): the forced cells as the released guide's own fill.sh prints them over the translation 02de7954e216d387… (all of the seat's roots in one cut). By AI agents, Wed Nov 11 2026. No macro, syntax, notation, axiom, sorry.
-/
import Derived.Test.YtmcniodiehfbpaaChecked
import GoSem.Claim
import GoSem.ClaimJoined
import GoSem.ClaimMapViews
import Derived.JoinedTies
import Derived.KernelRfl
namespace Go.Proofs.Ytmcniodiehfbpaa
/- THE CELL 'sum', in the pinned program and in every row, IS THE sha256 OF THE DUMP (.gsa) THAT YtmcniodiehfbpaaProg.lean LOADS. Nothing in Lean hashes anything: it is a label: what it is worth is what the hold of that sum in a sandbox is worth. -/
noncomputable def Try.pinned : Pinned := { name := "ytmcniodiehfbpaa", sum := "02de7954e216d387f76a028279d024bc5a9ae946d652585b2416760ff70252e2", checked := Try.checked }
namespace Rows
def none {H : Type} : Left H := { results := [], args := [] }

/-- 'proteuslaw11.ShapeMoves': WHATEVER THE INPUT: true; the input reads as it did. -/
def shapeMovesSpec : ChangeSpec := { name := "shapeMoves", fn := fun _ => fun
  | [d1, d2, d3] => { results := [.lit (.bool true)], args := [d1, d2, d3] }
  | _ => none }
def shapeMovesRow : OpenClaim := { program := "ytmcniodiehfbpaa", sum := "02de7954e216d387f76a028279d024bc5a9ae946d652585b2416760ff70252e2", func := "proteus/proteuslaw11.ShapeMoves", spec := "shapeMoves", unfollowed := true, recurses := true, apart := false }
def ShapeMovesSaid : Prop := shapeMovesRow.holds Try.pinned (OpenSpec.ofChange shapeMovesSpec)

/-- ITS FALSE NEIGHBOUR: 'it returns false'. Refute it at one input. -/
def shapeMovesWrong : ChangeSpec := { name := "shapeMoves", fn := fun _ => fun
  | [d1, d2, d3] => { results := [.lit (.bool false)], args := [d1, d2, d3] }
  | _ => none }
def ShapeMovesWrongFalsely : Prop := shapeMovesRow.holds Try.pinned (OpenSpec.ofChange shapeMovesWrong)

/-- 'proteuslaw11.ShapeOnce': WHATEVER THE INPUT: true; the input reads as it did. -/
def shapeOnceSpec : ChangeSpec := { name := "shapeOnce", fn := fun _ => fun
  | [d] => { results := [.lit (.bool true)], args := [d] }
  | _ => none }
def shapeOnceRow : OpenClaim := { program := "ytmcniodiehfbpaa", sum := "02de7954e216d387f76a028279d024bc5a9ae946d652585b2416760ff70252e2", func := "proteus/proteuslaw11.ShapeOnce", spec := "shapeOnce", unfollowed := true, recurses := true, apart := false }
def ShapeOnceSaid : Prop := shapeOnceRow.holds Try.pinned (OpenSpec.ofChange shapeOnceSpec)

/-- ITS FALSE NEIGHBOUR: 'it returns false'. Refute it at one input. -/
def shapeOnceWrong : ChangeSpec := { name := "shapeOnce", fn := fun _ => fun
  | [d] => { results := [.lit (.bool false)], args := [d] }
  | _ => none }
def ShapeOnceWrongFalsely : Prop := shapeOnceRow.holds Try.pinned (OpenSpec.ofChange shapeOnceWrong)

/-- 'proteuslaw11.ShapeStays': WHATEVER THE INPUT: true; the input reads as it did. -/
def shapeStaysSpec : ChangeSpec := { name := "shapeStays", fn := fun _ => fun
  | [d1, d2, d3] => { results := [.lit (.bool true)], args := [d1, d2, d3] }
  | _ => none }
def shapeStaysRow : OpenClaim := { program := "ytmcniodiehfbpaa", sum := "02de7954e216d387f76a028279d024bc5a9ae946d652585b2416760ff70252e2", func := "proteus/proteuslaw11.ShapeStays", spec := "shapeStays", unfollowed := true, recurses := true, apart := false }
def ShapeStaysSaid : Prop := shapeStaysRow.holds Try.pinned (OpenSpec.ofChange shapeStaysSpec)

/-- ITS FALSE NEIGHBOUR: 'it returns false'. Refute it at one input. -/
def shapeStaysWrong : ChangeSpec := { name := "shapeStays", fn := fun _ => fun
  | [d1, d2, d3] => { results := [.lit (.bool false)], args := [d1, d2, d3] }
  | _ => none }
def ShapeStaysWrongFalsely : Prop := shapeStaysRow.holds Try.pinned (OpenSpec.ofChange shapeStaysWrong)

/-- 'proteuslaw11.ShapeNone': WHATEVER THE INPUT: true; the input reads as it did. -/
def shapeNoneSpec : ChangeSpec := { name := "shapeNone", fn := fun _ => fun
  | [d1, d2] => { results := [.lit (.bool true)], args := [d1, d2] }
  | _ => none }
def shapeNoneRow : OpenClaim := { program := "ytmcniodiehfbpaa", sum := "02de7954e216d387f76a028279d024bc5a9ae946d652585b2416760ff70252e2", func := "proteus/proteuslaw11.ShapeNone", spec := "shapeNone", unfollowed := true, recurses := true, apart := false }
def ShapeNoneSaid : Prop := shapeNoneRow.holds Try.pinned (OpenSpec.ofChange shapeNoneSpec)

/-- ITS FALSE NEIGHBOUR: 'it returns false'. Refute it at one input. -/
def shapeNoneWrong : ChangeSpec := { name := "shapeNone", fn := fun _ => fun
  | [d1, d2] => { results := [.lit (.bool false)], args := [d1, d2] }
  | _ => none }
def ShapeNoneWrongFalsely : Prop := shapeNoneRow.holds Try.pinned (OpenSpec.ofChange shapeNoneWrong)

/- THE SECOND FORM. 'bulk': how many values and letters a reading holds, each counted each time it is reached (what is shared counts as often as it is met; a slice's spare places count too). A statement '..UptoSaid' is the law's where the arguments, and the package variables that the reading takes, are together of bulk at most 1048576: NARROWER than '..Said'. Prove '..Said' where nothing that the law and all that it calls make is longer than what came in: it says more and counts as full. Else prove '..UptoSaid'. A law counts once. -/
mutual
def uptoBulk {H : Type} : DataW H → Nat
  | .lit (.string bytes) => bytes.length + 1
  | .lit _ => 1
  | .nil => 1
  | .ptr d => uptoBulk d + 1
  | .slice elems spare => uptoBulkAll elems + uptoBulkAll spare + 1
  | .agg parts => uptoBulkAll parts + 1
  | .iface _ d => uptoBulk d + 1
  | .map entries => uptoBulkEntries entries + 1
  | .held _ => 1
def uptoBulkAll {H : Type} : List (DataW H) → Nat
  | [] => 0
  | d :: r => uptoBulk d + uptoBulkAll r
def uptoBulkEntries {H : Type} : List (Lit × DataW H) → Nat
  | [] => 0
  | x :: r => uptoBulkEntry x + uptoBulkEntries r
def uptoBulkEntry {H : Type} : Lit × DataW H → Nat
  | (.string bytes, d) => bytes.length + uptoBulk d + 1
  | (_, d) => uptoBulk d + 1
 end
def uptoSmall : (H : Type) → List (DataW H) → Bool := fun _ ds => decide (uptoBulkAll ds ≤ 1048576)
def OpenSpec.upto (s : _root_.Go.ChangeSpec) : _root_.Go.OpenSpec := { _root_.Go.OpenSpec.ofChange s with cond := some uptoSmall }

/-- 'proteuslaw11.ShapeMoves', WHERE WHAT IT READS IS OF BULK AT MOST 1048576: true; the input reads as it did. -/
def shapeMovesUptoRow : OpenClaim := { program := "ytmcniodiehfbpaa", sum := "02de7954e216d387f76a028279d024bc5a9ae946d652585b2416760ff70252e2", func := "proteus/proteuslaw11.ShapeMoves", spec := "shapeMoves", unfollowed := true, recurses := true, apart := false, narrowed := true }
def ShapeMovesUptoSaid : Prop := shapeMovesUptoRow.holds Try.pinned (OpenSpec.upto shapeMovesSpec)

/-- 'proteuslaw11.ShapeOnce', WHERE WHAT IT READS IS OF BULK AT MOST 1048576: true; the input reads as it did. -/
def shapeOnceUptoRow : OpenClaim := { program := "ytmcniodiehfbpaa", sum := "02de7954e216d387f76a028279d024bc5a9ae946d652585b2416760ff70252e2", func := "proteus/proteuslaw11.ShapeOnce", spec := "shapeOnce", unfollowed := true, recurses := true, apart := false, narrowed := true }
def ShapeOnceUptoSaid : Prop := shapeOnceUptoRow.holds Try.pinned (OpenSpec.upto shapeOnceSpec)

/-- 'proteuslaw11.ShapeStays', WHERE WHAT IT READS IS OF BULK AT MOST 1048576: true; the input reads as it did. -/
def shapeStaysUptoRow : OpenClaim := { program := "ytmcniodiehfbpaa", sum := "02de7954e216d387f76a028279d024bc5a9ae946d652585b2416760ff70252e2", func := "proteus/proteuslaw11.ShapeStays", spec := "shapeStays", unfollowed := true, recurses := true, apart := false, narrowed := true }
def ShapeStaysUptoSaid : Prop := shapeStaysUptoRow.holds Try.pinned (OpenSpec.upto shapeStaysSpec)

/-- 'proteuslaw11.ShapeNone', WHERE WHAT IT READS IS OF BULK AT MOST 1048576: true; the input reads as it did. -/
def shapeNoneUptoRow : OpenClaim := { program := "ytmcniodiehfbpaa", sum := "02de7954e216d387f76a028279d024bc5a9ae946d652585b2416760ff70252e2", func := "proteus/proteuslaw11.ShapeNone", spec := "shapeNone", unfollowed := true, recurses := true, apart := false, narrowed := true }
def ShapeNoneUptoSaid : Prop := shapeNoneUptoRow.holds Try.pinned (OpenSpec.upto shapeNoneSpec)

end Rows
end Go.Proofs.Ytmcniodiehfbpaa
