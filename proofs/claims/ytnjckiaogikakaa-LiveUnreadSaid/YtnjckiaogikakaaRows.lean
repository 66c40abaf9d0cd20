/-
  No cell of these rows narrows 'for every input' (looked for: loops, veiled, ifaces, maps, wideKeys, modest, calm, conditions, laid).
  DERIVED. THE GIVEN ROWS OF THIS SEAT. 4 by the template 'for every input the law returns true; each argument reads behind the call as it read before'; 0 by the template 'total and deterministic' (their statements: YtnjckiaogikakaaTotals.lean).
  GIVEN WITH THE SEED: the statements are not yours to turn. If you find one false, say at which input.
  Laid BY PROGRAM, IN A SANDBOX (cutbox-rows.mjs): the forced cells as the released guide's own fill.sh prints them over the translation bd3a3da7e75d04ec… (all of the seat's roots in one cut). By AI agents, Wed Nov 11 2026. No macro, syntax, notation, axiom, sorry.
-/
import Derived.Test.YtnjckiaogikakaaChecked
import GoSem.Claim
import GoSem.ClaimJoined
import GoSem.ClaimMapViews
import Derived.JoinedTies
import Derived.KernelRfl
namespace Go.Proofs.Ytnjckiaogikakaa
/- THE CELL 'sum', in the pinned program and in every row, IS THE sha256 OF THE DUMP (.gsa) THAT YtnjckiaogikakaaProg.lean LOADS. Nothing in Lean hashes anything: it is a label: what it is worth is what the hold of that sum in a sandbox is worth. -/
noncomputable def Try.pinned : Pinned := { name := "ytnjckiaogikakaa", sum := "bd3a3da7e75d04ec8b2421d2c1304f9e5b56dfb8259fbe52efa189d2e8402696", checked := Try.checked }
namespace Rows
def none {H : Type} : Left H := { results := [], args := [] }

/-- 'proteuslaw22.LiveDead': WHATEVER THE INPUT: true; the input reads as it did. -/
def liveDeadSpec : ChangeSpec := { name := "liveDead", fn := fun _ => fun
  | [d1, d2] => { results := [.lit (.bool true)], args := [d1, d2] }
  | _ => none }
def liveDeadRow : OpenClaim := { program := "ytnjckiaogikakaa", sum := "bd3a3da7e75d04ec8b2421d2c1304f9e5b56dfb8259fbe52efa189d2e8402696", func := "proteus/proteuslaw22.LiveDead", spec := "liveDead", unfollowed := true, recurses := true, apart := false }
def LiveDeadSaid : Prop := liveDeadRow.holds Try.pinned (OpenSpec.ofChange liveDeadSpec)

/-- ITS FALSE NEIGHBOUR: 'it returns false'. Refute it at one input. -/
def liveDeadWrong : ChangeSpec := { name := "liveDead", fn := fun _ => fun
  | [d1, d2] => { results := [.lit (.bool false)], args := [d1, d2] }
  | _ => none }
def LiveDeadWrongFalsely : Prop := liveDeadRow.holds Try.pinned (OpenSpec.ofChange liveDeadWrong)

/-- 'proteuslaw22.LiveUnread': WHATEVER THE INPUT: true; the input reads as it did. -/
def liveUnreadSpec : ChangeSpec := { name := "liveUnread", fn := fun _ => fun
  | [d1, d2, d3] => { results := [.lit (.bool true)], args := [d1, d2, d3] }
  | _ => none }
def liveUnreadRow : OpenClaim := { program := "ytnjckiaogikakaa", sum := "bd3a3da7e75d04ec8b2421d2c1304f9e5b56dfb8259fbe52efa189d2e8402696", func := "proteus/proteuslaw22.LiveUnread", spec := "liveUnread", unfollowed := true, recurses := true, apart := false }
def LiveUnreadSaid : Prop := liveUnreadRow.holds Try.pinned (OpenSpec.ofChange liveUnreadSpec)

/-- ITS FALSE NEIGHBOUR: 'it returns false'. Refute it at one input. -/
def liveUnreadWrong : ChangeSpec := { name := "liveUnread", fn := fun _ => fun
  | [d1, d2, d3] => { results := [.lit (.bool false)], args := [d1, d2, d3] }
  | _ => none }
def LiveUnreadWrongFalsely : Prop := liveUnreadRow.holds Try.pinned (OpenSpec.ofChange liveUnreadWrong)

/-- 'proteuslaw22.LiveSets': WHATEVER THE INPUT: true; the input reads as it did. -/
def liveSetsSpec : ChangeSpec := { name := "liveSets", fn := fun _ => fun
  | [d1, d2] => { results := [.lit (.bool true)], args := [d1, d2] }
  | _ => none }
def liveSetsRow : OpenClaim := { program := "ytnjckiaogikakaa", sum := "bd3a3da7e75d04ec8b2421d2c1304f9e5b56dfb8259fbe52efa189d2e8402696", func := "proteus/proteuslaw22.LiveSets", spec := "liveSets", unfollowed := true, recurses := true, apart := false }
def LiveSetsSaid : Prop := liveSetsRow.holds Try.pinned (OpenSpec.ofChange liveSetsSpec)

/-- ITS FALSE NEIGHBOUR: 'it returns false'. Refute it at one input. -/
def liveSetsWrong : ChangeSpec := { name := "liveSets", fn := fun _ => fun
  | [d1, d2] => { results := [.lit (.bool false)], args := [d1, d2] }
  | _ => none }
def LiveSetsWrongFalsely : Prop := liveSetsRow.holds Try.pinned (OpenSpec.ofChange liveSetsWrong)

/-- 'proteuslaw22.LiveFlows': WHATEVER THE INPUT: true; the input reads as it did. -/
def liveFlowsSpec : ChangeSpec := { name := "liveFlows", fn := fun _ => fun
  | [d1, d2] => { results := [.lit (.bool true)], args := [d1, d2] }
  | _ => none }
def liveFlowsRow : OpenClaim := { program := "ytnjckiaogikakaa", sum := "bd3a3da7e75d04ec8b2421d2c1304f9e5b56dfb8259fbe52efa189d2e8402696", func := "proteus/proteuslaw22.LiveFlows", spec := "liveFlows", unfollowed := true, recurses := true, apart := false }
def LiveFlowsSaid : Prop := liveFlowsRow.holds Try.pinned (OpenSpec.ofChange liveFlowsSpec)

/-- ITS FALSE NEIGHBOUR: 'it returns false'. Refute it at one input. -/
def liveFlowsWrong : ChangeSpec := { name := "liveFlows", fn := fun _ => fun
  | [d1, d2] => { results := [.lit (.bool false)], args := [d1, d2] }
  | _ => none }
def LiveFlowsWrongFalsely : Prop := liveFlowsRow.holds Try.pinned (OpenSpec.ofChange liveFlowsWrong)

/- THE SECOND FORM. 'bulk': how many values and letters a reading holds, each counted each time it is reached (what is shared counts as often as it is met; a slice's spare places count too). A statement '..UptoSaid' is the law's where the arguments, and the package variables that the reading takes, are together of bulk at most 1048576: NARROWER than '..Said'. Prove '..Said' where nothing that the law and all that it calls make is longer than what came in: it says more and counts as full. Else prove '..UptoSaid'. A law counts once. -/
mutual
def uptoBulk {H : Type} : DataW H → Nat
  | .lit (.string bytes) => bytes.length + 1
  | .lit _ => 1
  | .nil => 1
  | .ptr d => uptoBulk d + 1
  | .slice elems spare => uptoBulkAll elems + uptoBulkAll spare + 1
  | .agg parts => uptoBulkAll parts + 1
  | .iface _ d => uptoBulk d + 1
  | .map entries => uptoBulkEntries entries + 1
  | .held _ => 1
def uptoBulkAll {H : Type} : List (DataW H) → Nat
  | [] => 0
  | d :: r => uptoBulk d + uptoBulkAll r
def uptoBulkEntries {H : Type} : List (Lit × DataW H) → Nat
  | [] => 0
  | x :: r => uptoBulkEntry x + uptoBulkEntries r
def uptoBulkEntry {H : Type} : Lit × DataW H → Nat
  | (.string bytes, d) => bytes.length + uptoBulk d + 1
  | (_, d) => uptoBulk d + 1
 end
def uptoSmall : (H : Type) → List (DataW H) → Bool := fun _ ds => decide (uptoBulkAll ds ≤ 1048576)
def OpenSpec.upto (s : _root_.Go.ChangeSpec) : _root_.Go.OpenSpec := { _root_.Go.OpenSpec.ofChange s with cond := some uptoSmall }

/-- 'proteuslaw22.LiveDead', WHERE WHAT IT READS IS OF BULK AT MOST 1048576: true; the input reads as it did. -/
def liveDeadUptoRow : OpenClaim := { program := "ytnjckiaogikakaa", sum := "bd3a3da7e75d04ec8b2421d2c1304f9e5b56dfb8259fbe52efa189d2e8402696", func := "proteus/proteuslaw22.LiveDead", spec := "liveDead", unfollowed := true, recurses := true, apart := false, narrowed := true }
def LiveDeadUptoSaid : Prop := liveDeadUptoRow.holds Try.pinned (OpenSpec.upto liveDeadSpec)

/-- 'proteuslaw22.LiveUnread', WHERE WHAT IT READS IS OF BULK AT MOST 1048576: true; the input reads as it did. -/
def liveUnreadUptoRow : OpenClaim := { program := "ytnjckiaogikakaa", sum := "bd3a3da7e75d04ec8b2421d2c1304f9e5b56dfb8259fbe52efa189d2e8402696", func := "proteus/proteuslaw22.LiveUnread", spec := "liveUnread", unfollowed := true, recurses := true, apart := false, narrowed := true }
def LiveUnreadUptoSaid : Prop := liveUnreadUptoRow.holds Try.pinned (OpenSpec.upto liveUnreadSpec)

/-- 'proteuslaw22.LiveSets', WHERE WHAT IT READS IS OF BULK AT MOST 1048576: true; the input reads as it did. -/
def liveSetsUptoRow : OpenClaim := { program := "ytnjckiaogikakaa", sum := "bd3a3da7e75d04ec8b2421d2c1304f9e5b56dfb8259fbe52efa189d2e8402696", func := "proteus/proteuslaw22.LiveSets", spec := "liveSets", unfollowed := true, recurses := true, apart := false, narrowed := true }
def LiveSetsUptoSaid : Prop := liveSetsUptoRow.holds Try.pinned (OpenSpec.upto liveSetsSpec)

/-- 'proteuslaw22.LiveFlows', WHERE WHAT IT READS IS OF BULK AT MOST 1048576: true; the input reads as it did. -/
def liveFlowsUptoRow : OpenClaim := { program := "ytnjckiaogikakaa", sum := "bd3a3da7e75d04ec8b2421d2c1304f9e5b56dfb8259fbe52efa189d2e8402696", func := "proteus/proteuslaw22.LiveFlows", spec := "liveFlows", unfollowed := true, recurses := true, apart := false, narrowed := true }
def LiveFlowsUptoSaid : Prop := liveFlowsUptoRow.holds Try.pinned (OpenSpec.upto liveFlowsSpec)

end Rows
end Go.Proofs.Ytnjckiaogikakaa
