/-
  No cell of these rows narrows 'for every input' (looked for: loops, veiled, ifaces, maps, wideKeys, modest, calm, conditions, laid).
  DERIVED. THE GIVEN ROWS OF THIS SEAT. 4 by the template 'for every input the law returns true; each argument reads behind the call as it read before'; 0 by the template 'total and deterministic' (their statements: YtdlanbfbbopfhaaTotals.lean).
  GIVEN WITH THE SEED: the statements are not yours to turn. If you find one false, say at which input.
  Laid BY PROGRAM, IN A SANDBOX (cutbox-rows.mjs): the forced cells as the released guide's own fill.sh prints them over the translation 27cde85a35c4fd2e… (all of the seat's roots in one cut). By AI agents, Wed Nov 11 2026. No macro, syntax, notation, axiom, sorry.
-/
import Derived.Test.YtdlanbfbbopfhaaChecked
import GoSem.Claim
import GoSem.ClaimJoined
import GoSem.ClaimMapViews
import Derived.JoinedTies
import Derived.KernelRfl
namespace Go.Proofs.Ytdlanbfbbopfhaa
/- THE CELL 'sum', in the pinned program and in every row, IS THE sha256 OF THE DUMP (.gsa) THAT YtdlanbfbbopfhaaProg.lean LOADS. Nothing in Lean hashes anything: it is a label: what it is worth is what the hold of that sum in a sandbox is worth. -/
noncomputable def Try.pinned : Pinned := { name := "ytdlanbfbbopfhaa", sum := "27cde85a35c4fd2e5ece045c5bcfa74096ff27804fcc362db9b268b0fb27334e", checked := Try.checked }
namespace Rows
def none {H : Type} : Left H := { results := [], args := [] }

/-- 'proteuslaw21.LiftBodies': WHATEVER THE INPUT: true; the input reads as it did. -/
def liftBodiesSpec : ChangeSpec := { name := "liftBodies", fn := fun _ => fun
  | [d1, d2] => { results := [.lit (.bool true)], args := [d1, d2] }
  | _ => none }
def liftBodiesRow : OpenClaim := { program := "ytdlanbfbbopfhaa", sum := "27cde85a35c4fd2e5ece045c5bcfa74096ff27804fcc362db9b268b0fb27334e", func := "proteus/proteuslaw21.LiftBodies", spec := "liftBodies", unfollowed := true, recurses := true, plainKeys := false, apart := false }
def LiftBodiesSaid : Prop := liftBodiesRow.holds Try.pinned (OpenSpec.ofChange liftBodiesSpec)

/-- ITS FALSE NEIGHBOUR: 'it returns false'. Refute it at one input. -/
def liftBodiesWrong : ChangeSpec := { name := "liftBodies", fn := fun _ => fun
  | [d1, d2] => { results := [.lit (.bool false)], args := [d1, d2] }
  | _ => none }
def LiftBodiesWrongFalsely : Prop := liftBodiesRow.holds Try.pinned (OpenSpec.ofChange liftBodiesWrong)

/-- 'proteuslaw21.LiftTicks': WHATEVER THE INPUT: true; the input reads as it did. -/
def liftTicksSpec : ChangeSpec := { name := "liftTicks", fn := fun _ => fun
  | [d] => { results := [.lit (.bool true)], args := [d] }
  | _ => none }
def liftTicksRow : OpenClaim := { program := "ytdlanbfbbopfhaa", sum := "27cde85a35c4fd2e5ece045c5bcfa74096ff27804fcc362db9b268b0fb27334e", func := "proteus/proteuslaw21.LiftTicks", spec := "liftTicks", unfollowed := true, recurses := true, plainKeys := false, apart := false }
def LiftTicksSaid : Prop := liftTicksRow.holds Try.pinned (OpenSpec.ofChange liftTicksSpec)

/-- ITS FALSE NEIGHBOUR: 'it returns false'. Refute it at one input. -/
def liftTicksWrong : ChangeSpec := { name := "liftTicks", fn := fun _ => fun
  | [d] => { results := [.lit (.bool false)], args := [d] }
  | _ => none }
def LiftTicksWrongFalsely : Prop := liftTicksRow.holds Try.pinned (OpenSpec.ofChange liftTicksWrong)

/-- 'proteuslaw21.LiftPlaces': WHATEVER THE INPUT: true; the input reads as it did. -/
def liftPlacesSpec : ChangeSpec := { name := "liftPlaces", fn := fun _ => fun
  | [d1, d2] => { results := [.lit (.bool true)], args := [d1, d2] }
  | _ => none }
def liftPlacesRow : OpenClaim := { program := "ytdlanbfbbopfhaa", sum := "27cde85a35c4fd2e5ece045c5bcfa74096ff27804fcc362db9b268b0fb27334e", func := "proteus/proteuslaw21.LiftPlaces", spec := "liftPlaces", unfollowed := true, recurses := true, plainKeys := false, apart := false }
def LiftPlacesSaid : Prop := liftPlacesRow.holds Try.pinned (OpenSpec.ofChange liftPlacesSpec)

/-- ITS FALSE NEIGHBOUR: 'it returns false'. Refute it at one input. -/
def liftPlacesWrong : ChangeSpec := { name := "liftPlaces", fn := fun _ => fun
  | [d1, d2] => { results := [.lit (.bool false)], args := [d1, d2] }
  | _ => none }
def LiftPlacesWrongFalsely : Prop := liftPlacesRow.holds Try.pinned (OpenSpec.ofChange liftPlacesWrong)

/-- 'proteuslaw21.LiftMay': WHATEVER THE INPUT: true; the input reads as it did. -/
def liftMaySpec : ChangeSpec := { name := "liftMay", fn := fun _ => fun
  | [d] => { results := [.lit (.bool true)], args := [d] }
  | _ => none }
def liftMayRow : OpenClaim := { program := "ytdlanbfbbopfhaa", sum := "27cde85a35c4fd2e5ece045c5bcfa74096ff27804fcc362db9b268b0fb27334e", func := "proteus/proteuslaw21.LiftMay", spec := "liftMay", unfollowed := true, recurses := true, plainKeys := false, apart := false }
def LiftMaySaid : Prop := liftMayRow.holds Try.pinned (OpenSpec.ofChange liftMaySpec)

/-- ITS FALSE NEIGHBOUR: 'it returns false'. Refute it at one input. -/
def liftMayWrong : ChangeSpec := { name := "liftMay", fn := fun _ => fun
  | [d] => { results := [.lit (.bool false)], args := [d] }
  | _ => none }
def LiftMayWrongFalsely : Prop := liftMayRow.holds Try.pinned (OpenSpec.ofChange liftMayWrong)

/- THE SECOND FORM. 'bulk': how many values and letters a reading holds, each counted each time it is reached (what is shared counts as often as it is met; a slice's spare places count too). A statement '..UptoSaid' is the law's where the arguments, and the package variables that the reading takes, are together of bulk at most 1048576: NARROWER than '..Said'. Prove '..Said' where nothing that the law and all that it calls make is longer than what came in: it says more and counts as full. Else prove '..UptoSaid'. A law counts once. -/
mutual
def uptoBulk {H : Type} : DataW H → Nat
  | .lit (.string bytes) => bytes.length + 1
  | .lit _ => 1
  | .nil => 1
  | .ptr d => uptoBulk d + 1
  | .slice elems spare => uptoBulkAll elems + uptoBulkAll spare + 1
  | .agg parts => uptoBulkAll parts + 1
  | .iface _ d => uptoBulk d + 1
  | .map entries => uptoBulkEntries entries + 1
  | .held _ => 1
def uptoBulkAll {H : Type} : List (DataW H) → Nat
  | [] => 0
  | d :: r => uptoBulk d + uptoBulkAll r
def uptoBulkEntries {H : Type} : List (Lit × DataW H) → Nat
  | [] => 0
  | x :: r => uptoBulkEntry x + uptoBulkEntries r
def uptoBulkEntry {H : Type} : Lit × DataW H → Nat
  | (.string bytes, d) => bytes.length + uptoBulk d + 1
  | (_, d) => uptoBulk d + 1
 end
def uptoSmall : (H : Type) → List (DataW H) → Bool := fun _ ds => decide (uptoBulkAll ds ≤ 1048576)
def OpenSpec.upto (s : _root_.Go.ChangeSpec) : _root_.Go.OpenSpec := { _root_.Go.OpenSpec.ofChange s with cond := some uptoSmall }

/-- 'proteuslaw21.LiftBodies', WHERE WHAT IT READS IS OF BULK AT MOST 1048576: true; the input reads as it did. -/
def liftBodiesUptoRow : OpenClaim := { program := "ytdlanbfbbopfhaa", sum := "27cde85a35c4fd2e5ece045c5bcfa74096ff27804fcc362db9b268b0fb27334e", func := "proteus/proteuslaw21.LiftBodies", spec := "liftBodies", unfollowed := true, recurses := true, plainKeys := false, apart := false, narrowed := true }
def LiftBodiesUptoSaid : Prop := liftBodiesUptoRow.holds Try.pinned (OpenSpec.upto liftBodiesSpec)

/-- 'proteuslaw21.LiftTicks', WHERE WHAT IT READS IS OF BULK AT MOST 1048576: true; the input reads as it did. -/
def liftTicksUptoRow : OpenClaim := { program := "ytdlanbfbbopfhaa", sum := "27cde85a35c4fd2e5ece045c5bcfa74096ff27804fcc362db9b268b0fb27334e", func := "proteus/proteuslaw21.LiftTicks", spec := "liftTicks", unfollowed := true, recurses := true, plainKeys := false, apart := false, narrowed := true }
def LiftTicksUptoSaid : Prop := liftTicksUptoRow.holds Try.pinned (OpenSpec.upto liftTicksSpec)

/-- 'proteuslaw21.LiftPlaces', WHERE WHAT IT READS IS OF BULK AT MOST 1048576: true; the input reads as it did. -/
def liftPlacesUptoRow : OpenClaim := { program := "ytdlanbfbbopfhaa", sum := "27cde85a35c4fd2e5ece045c5bcfa74096ff27804fcc362db9b268b0fb27334e", func := "proteus/proteuslaw21.LiftPlaces", spec := "liftPlaces", unfollowed := true, recurses := true, plainKeys := false, apart := false, narrowed := true }
def LiftPlacesUptoSaid : Prop := liftPlacesUptoRow.holds Try.pinned (OpenSpec.upto liftPlacesSpec)

/-- 'proteuslaw21.LiftMay', WHERE WHAT IT READS IS OF BULK AT MOST 1048576: true; the input reads as it did. -/
def liftMayUptoRow : OpenClaim := { program := "ytdlanbfbbopfhaa", sum := "27cde85a35c4fd2e5ece045c5bcfa74096ff27804fcc362db9b268b0fb27334e", func := "proteus/proteuslaw21.LiftMay", spec := "liftMay", unfollowed := true, recurses := true, plainKeys := false, apart := false, narrowed := true }
def LiftMayUptoSaid : Prop := liftMayUptoRow.holds Try.pinned (OpenSpec.upto liftMaySpec)

end Rows
end Go.Proofs.Ytdlanbfbbopfhaa
