/-
  No cell of these rows narrows 'for every input' (looked for: loops, veiled, ifaces, maps, wideKeys, modest, calm, conditions, laid).
  DERIVED. THE GIVEN ROWS OF THIS SEAT. 4 by the template 'for every input the law returns true; each argument reads behind the call as it read before'; 0 by the template 'total and deterministic' (their statements: YtnmfmgnkfkhdhaaTotals.lean).
  GIVEN WITH THE SEED: the statements are not yours to turn. If you find one false, say at which input.
  Laid BY PROGRAM, IN A SANDBOX (cutbox-rows.mjs): the forced cells as the released guide's own fill.sh prints them over the translation 60eac5a9c3a8e0c8… (all of the seat's roots in one cut). By AI agents, Wed Nov 11 2026. No macro, syntax, notation, axiom, sorry.
-/
import Derived.Test.YtnmfmgnkfkhdhaaChecked
import GoSem.Claim
import GoSem.ClaimJoined
import GoSem.ClaimMapViews
import Derived.JoinedTies
import Derived.KernelRfl
namespace Go.Proofs.Ytnmfmgnkfkhdhaa
/- THE CELL 'sum', in the pinned program and in every row, IS THE sha256 OF THE DUMP (.gsa) THAT YtnmfmgnkfkhdhaaProg.lean LOADS. Nothing in Lean hashes anything: it is a label: what it is worth is what the hold of that sum in a sandbox is worth. -/
noncomputable def Try.pinned : Pinned := { name := "ytnmfmgnkfkhdhaa", sum := "60eac5a9c3a8e0c8be9cfbb52cec984675cb0092d9810a351184a000616c9b96", checked := Try.checked }
namespace Rows
def none {H : Type} : Left H := { results := [], args := [] }

/-- 'proteuslaw09.DictPlays': WHATEVER THE INPUT: true; the input reads as it did. -/
def dictPlaysSpec : ChangeSpec := { name := "dictPlays", fn := fun _ => fun
  | [d] => { results := [.lit (.bool true)], args := [d] }
  | _ => none }
def dictPlaysRow : OpenClaim := { program := "ytnmfmgnkfkhdhaa", sum := "60eac5a9c3a8e0c8be9cfbb52cec984675cb0092d9810a351184a000616c9b96", func := "proteus/proteuslaw09.DictPlays", spec := "dictPlays", unfollowed := true, recurses := true, apart := false }
def DictPlaysSaid : Prop := dictPlaysRow.holds Try.pinned (OpenSpec.ofChange dictPlaysSpec)

/-- ITS FALSE NEIGHBOUR: 'it returns false'. Refute it at one input. -/
def dictPlaysWrong : ChangeSpec := { name := "dictPlays", fn := fun _ => fun
  | [d] => { results := [.lit (.bool false)], args := [d] }
  | _ => none }
def DictPlaysWrongFalsely : Prop := dictPlaysRow.holds Try.pinned (OpenSpec.ofChange dictPlaysWrong)

/-- 'proteuslaw09.DictOnce': WHATEVER THE INPUT: true; the input reads as it did. -/
def dictOnceSpec : ChangeSpec := { name := "dictOnce", fn := fun _ => fun
  | [d] => { results := [.lit (.bool true)], args := [d] }
  | _ => none }
def dictOnceRow : OpenClaim := { program := "ytnmfmgnkfkhdhaa", sum := "60eac5a9c3a8e0c8be9cfbb52cec984675cb0092d9810a351184a000616c9b96", func := "proteus/proteuslaw09.DictOnce", spec := "dictOnce", unfollowed := true, recurses := true, apart := false }
def DictOnceSaid : Prop := dictOnceRow.holds Try.pinned (OpenSpec.ofChange dictOnceSpec)

/-- ITS FALSE NEIGHBOUR: 'it returns false'. Refute it at one input. -/
def dictOnceWrong : ChangeSpec := { name := "dictOnce", fn := fun _ => fun
  | [d] => { results := [.lit (.bool false)], args := [d] }
  | _ => none }
def DictOnceWrongFalsely : Prop := dictOnceRow.holds Try.pinned (OpenSpec.ofChange dictOnceWrong)

/-- 'proteuslaw09.DictClones': WHATEVER THE INPUT: true; the input reads as it did. -/
def dictClonesSpec : ChangeSpec := { name := "dictClones", fn := fun _ => fun
  | [d1, d2] => { results := [.lit (.bool true)], args := [d1, d2] }
  | _ => none }
def dictClonesRow : OpenClaim := { program := "ytnmfmgnkfkhdhaa", sum := "60eac5a9c3a8e0c8be9cfbb52cec984675cb0092d9810a351184a000616c9b96", func := "proteus/proteuslaw09.DictClones", spec := "dictClones", inPlace := ["maps.clone"], unfollowed := true, recurses := true, apart := false }
def DictClonesSaid : Prop := dictClonesRow.holds Try.pinned (OpenSpec.ofChange dictClonesSpec)

/-- ITS FALSE NEIGHBOUR: 'it returns false'. Refute it at one input. -/
def dictClonesWrong : ChangeSpec := { name := "dictClones", fn := fun _ => fun
  | [d1, d2] => { results := [.lit (.bool false)], args := [d1, d2] }
  | _ => none }
def DictClonesWrongFalsely : Prop := dictClonesRow.holds Try.pinned (OpenSpec.ofChange dictClonesWrong)

/-- 'proteuslaw09.DictNone': WHATEVER THE INPUT: true; the input reads as it did. -/
def dictNoneSpec : ChangeSpec := { name := "dictNone", fn := fun _ => fun
  | [d1, d2] => { results := [.lit (.bool true)], args := [d1, d2] }
  | _ => none }
def dictNoneRow : OpenClaim := { program := "ytnmfmgnkfkhdhaa", sum := "60eac5a9c3a8e0c8be9cfbb52cec984675cb0092d9810a351184a000616c9b96", func := "proteus/proteuslaw09.DictNone", spec := "dictNone", inPlace := ["maps.clone"], unfollowed := true, recurses := true, apart := false }
def DictNoneSaid : Prop := dictNoneRow.holds Try.pinned (OpenSpec.ofChange dictNoneSpec)

/-- ITS FALSE NEIGHBOUR: 'it returns false'. Refute it at one input. -/
def dictNoneWrong : ChangeSpec := { name := "dictNone", fn := fun _ => fun
  | [d1, d2] => { results := [.lit (.bool false)], args := [d1, d2] }
  | _ => none }
def DictNoneWrongFalsely : Prop := dictNoneRow.holds Try.pinned (OpenSpec.ofChange dictNoneWrong)

/- THE SECOND FORM. 'bulk': how many values and letters a reading holds, each counted each time it is reached (what is shared counts as often as it is met; a slice's spare places count too). A statement '..UptoSaid' is the law's where the arguments, and the package variables that the reading takes, are together of bulk at most 1048576: NARROWER than '..Said'. Prove '..Said' where nothing that the law and all that it calls make is longer than what came in: it says more and counts as full. Else prove '..UptoSaid'. A law counts once. -/
mutual
def uptoBulk {H : Type} : DataW H → Nat
  | .lit (.string bytes) => bytes.length + 1
  | .lit _ => 1
  | .nil => 1
  | .ptr d => uptoBulk d + 1
  | .slice elems spare => uptoBulkAll elems + uptoBulkAll spare + 1
  | .agg parts => uptoBulkAll parts + 1
  | .iface _ d => uptoBulk d + 1
  | .map entries => uptoBulkEntries entries + 1
  | .held _ => 1
def uptoBulkAll {H : Type} : List (DataW H) → Nat
  | [] => 0
  | d :: r => uptoBulk d + uptoBulkAll r
def uptoBulkEntries {H : Type} : List (Lit × DataW H) → Nat
  | [] => 0
  | x :: r => uptoBulkEntry x + uptoBulkEntries r
def uptoBulkEntry {H : Type} : Lit × DataW H → Nat
  | (.string bytes, d) => bytes.length + uptoBulk d + 1
  | (_, d) => uptoBulk d + 1
 end
def uptoSmall : (H : Type) → List (DataW H) → Bool := fun _ ds => decide (uptoBulkAll ds ≤ 1048576)
def OpenSpec.upto (s : _root_.Go.ChangeSpec) : _root_.Go.OpenSpec := { _root_.Go.OpenSpec.ofChange s with cond := some uptoSmall }

/-- 'proteuslaw09.DictPlays', WHERE WHAT IT READS IS OF BULK AT MOST 1048576: true; the input reads as it did. -/
def dictPlaysUptoRow : OpenClaim := { program := "ytnmfmgnkfkhdhaa", sum := "60eac5a9c3a8e0c8be9cfbb52cec984675cb0092d9810a351184a000616c9b96", func := "proteus/proteuslaw09.DictPlays", spec := "dictPlays", unfollowed := true, recurses := true, apart := false, narrowed := true }
def DictPlaysUptoSaid : Prop := dictPlaysUptoRow.holds Try.pinned (OpenSpec.upto dictPlaysSpec)

/-- 'proteuslaw09.DictOnce', WHERE WHAT IT READS IS OF BULK AT MOST 1048576: true; the input reads as it did. -/
def dictOnceUptoRow : OpenClaim := { program := "ytnmfmgnkfkhdhaa", sum := "60eac5a9c3a8e0c8be9cfbb52cec984675cb0092d9810a351184a000616c9b96", func := "proteus/proteuslaw09.DictOnce", spec := "dictOnce", unfollowed := true, recurses := true, apart := false, narrowed := true }
def DictOnceUptoSaid : Prop := dictOnceUptoRow.holds Try.pinned (OpenSpec.upto dictOnceSpec)

/-- 'proteuslaw09.DictClones', WHERE WHAT IT READS IS OF BULK AT MOST 1048576: true; the input reads as it did. -/
def dictClonesUptoRow : OpenClaim := { program := "ytnmfmgnkfkhdhaa", sum := "60eac5a9c3a8e0c8be9cfbb52cec984675cb0092d9810a351184a000616c9b96", func := "proteus/proteuslaw09.DictClones", spec := "dictClones", inPlace := ["maps.clone"], unfollowed := true, recurses := true, apart := false, narrowed := true }
def DictClonesUptoSaid : Prop := dictClonesUptoRow.holds Try.pinned (OpenSpec.upto dictClonesSpec)

/-- 'proteuslaw09.DictNone', WHERE WHAT IT READS IS OF BULK AT MOST 1048576: true; the input reads as it did. -/
def dictNoneUptoRow : OpenClaim := { program := "ytnmfmgnkfkhdhaa", sum := "60eac5a9c3a8e0c8be9cfbb52cec984675cb0092d9810a351184a000616c9b96", func := "proteus/proteuslaw09.DictNone", spec := "dictNone", inPlace := ["maps.clone"], unfollowed := true, recurses := true, apart := false, narrowed := true }
def DictNoneUptoSaid : Prop := dictNoneUptoRow.holds Try.pinned (OpenSpec.upto dictNoneSpec)

end Rows
end Go.Proofs.Ytnmfmgnkfkhdhaa
