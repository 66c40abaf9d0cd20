/-
  NARROWER THAN 'FOR EVERY INPUT', by the rows' own cells (each row's printed sentence says how): CompileSites: loops · CompileMay: loops.
  DERIVED. THE GIVEN ROWS OF THIS SEAT. 3 by the template 'for every input the law returns true; each argument reads behind the call as it read before'; 0 by the template 'total and deterministic' (their statements: YtmdjepfpgmignaaTotals.lean).
  GIVEN WITH THE SEED: the statements are not yours to turn. If you find one false, say at which input.
  Laid BY PROGRAM, IN A SANDBOX (cutbox-rows.mjs): the forced cells as the released guide's own fill.sh prints them over the translation 0f01defd4f692587… (all of the seat's roots in one cut). By AI agents, Wed Nov 11 2026. No macro, syntax, notation, axiom, sorry.
-/
import Derived.Test.YtmdjepfpgmignaaChecked
import GoSem.Claim
import GoSem.ClaimJoined
import GoSem.ClaimMapViews
import Derived.JoinedTies
import Derived.KernelRfl
namespace Go.Proofs.Ytmdjepfpgmignaa
/- THE CELL 'sum', in the pinned program and in every row, IS THE sha256 OF THE DUMP (.gsa) THAT YtmdjepfpgmignaaProg.lean LOADS. Nothing in Lean hashes anything: it is a label: what it is worth is what the hold of that sum in a sandbox is worth. -/
noncomputable def Try.pinned : Pinned := { name := "ytmdjepfpgmignaa", sum := "0f01defd4f69258735f14bbc9b1824677978f5038537718f9265054927c09563", checked := Try.checked }
namespace Rows
def none {H : Type} : Left H := { results := [], args := [] }

/-- 'proteuslaw15.CompileSites': WHATEVER THE INPUT: true; the input reads as it did. -/
def compileSitesSpec : ChangeSpec := { name := "compileSites", fn := fun _ => fun
  | [d] => { results := [.lit (.bool true)], args := [d] }
  | _ => none }
def compileSitesRow : OpenClaim := { program := "ytmdjepfpgmignaa", sum := "0f01defd4f69258735f14bbc9b1824677978f5038537718f9265054927c09563", func := "proteus/proteuslaw15.CompileSites", spec := "compileSites", unfollowed := true, recurses := true, loops := true, apart := false }
def CompileSitesSaid : Prop := compileSitesRow.holds Try.pinned (OpenSpec.ofChange compileSitesSpec)

/-- ITS FALSE NEIGHBOUR: 'it returns false'. Refute it at one input. -/
def compileSitesWrong : ChangeSpec := { name := "compileSites", fn := fun _ => fun
  | [d] => { results := [.lit (.bool false)], args := [d] }
  | _ => none }
def CompileSitesWrongFalsely : Prop := compileSitesRow.holds Try.pinned (OpenSpec.ofChange compileSitesWrong)

/-- 'proteuslaw15.CompileSums': WHATEVER THE INPUT: true; the input reads as it did. -/
def compileSumsSpec : ChangeSpec := { name := "compileSums", fn := fun _ => fun
  | [d] => { results := [.lit (.bool true)], args := [d] }
  | _ => none }
def compileSumsRow : OpenClaim := { program := "ytmdjepfpgmignaa", sum := "0f01defd4f69258735f14bbc9b1824677978f5038537718f9265054927c09563", func := "proteus/proteuslaw15.CompileSums", spec := "compileSums", unfollowed := true, recurses := true, apart := false }
def CompileSumsSaid : Prop := compileSumsRow.holds Try.pinned (OpenSpec.ofChange compileSumsSpec)

/-- ITS FALSE NEIGHBOUR: 'it returns false'. Refute it at one input. -/
def compileSumsWrong : ChangeSpec := { name := "compileSums", fn := fun _ => fun
  | [d] => { results := [.lit (.bool false)], args := [d] }
  | _ => none }
def CompileSumsWrongFalsely : Prop := compileSumsRow.holds Try.pinned (OpenSpec.ofChange compileSumsWrong)

/-- 'proteuslaw15.CompileMay': WHATEVER THE INPUT: true; the input reads as it did. -/
def compileMaySpec : ChangeSpec := { name := "compileMay", fn := fun _ => fun
  | [d] => { results := [.lit (.bool true)], args := [d] }
  | _ => none }
def compileMayRow : OpenClaim := { program := "ytmdjepfpgmignaa", sum := "0f01defd4f69258735f14bbc9b1824677978f5038537718f9265054927c09563", func := "proteus/proteuslaw15.CompileMay", spec := "compileMay", unfollowed := true, recurses := true, loops := true, apart := false }
def CompileMaySaid : Prop := compileMayRow.holds Try.pinned (OpenSpec.ofChange compileMaySpec)

/-- ITS FALSE NEIGHBOUR: 'it returns false'. Refute it at one input. -/
def compileMayWrong : ChangeSpec := { name := "compileMay", fn := fun _ => fun
  | [d] => { results := [.lit (.bool false)], args := [d] }
  | _ => none }
def CompileMayWrongFalsely : Prop := compileMayRow.holds Try.pinned (OpenSpec.ofChange compileMayWrong)

/- THE SECOND FORM. 'bulk': how many values and letters a reading holds, each counted each time it is reached (what is shared counts as often as it is met; a slice's spare places count too). A statement '..UptoSaid' is the law's where the arguments, and the package variables that the reading takes, are together of bulk at most 1048576: NARROWER than '..Said'. Prove '..Said' where nothing that the law and all that it calls make is longer than what came in: it says more and counts as full. Else prove '..UptoSaid'. A law counts once. -/
mutual
def uptoBulk {H : Type} : DataW H → Nat
  | .lit (.string bytes) => bytes.length + 1
  | .lit _ => 1
  | .nil => 1
  | .ptr d => uptoBulk d + 1
  | .slice elems spare => uptoBulkAll elems + uptoBulkAll spare + 1
  | .agg parts => uptoBulkAll parts + 1
  | .iface _ d => uptoBulk d + 1
  | .map entries => uptoBulkEntries entries + 1
  | .held _ => 1
def uptoBulkAll {H : Type} : List (DataW H) → Nat
  | [] => 0
  | d :: r => uptoBulk d + uptoBulkAll r
def uptoBulkEntries {H : Type} : List (Lit × DataW H) → Nat
  | [] => 0
  | x :: r => uptoBulkEntry x + uptoBulkEntries r
def uptoBulkEntry {H : Type} : Lit × DataW H → Nat
  | (.string bytes, d) => bytes.length + uptoBulk d + 1
  | (_, d) => uptoBulk d + 1
 end
def uptoSmall : (H : Type) → List (DataW H) → Bool := fun _ ds => decide (uptoBulkAll ds ≤ 1048576)
def OpenSpec.upto (s : _root_.Go.ChangeSpec) : _root_.Go.OpenSpec := { _root_.Go.OpenSpec.ofChange s with cond := some uptoSmall }

/-- 'proteuslaw15.CompileSites', WHERE WHAT IT READS IS OF BULK AT MOST 1048576: true; the input reads as it did. -/
def compileSitesUptoRow : OpenClaim := { program := "ytmdjepfpgmignaa", sum := "0f01defd4f69258735f14bbc9b1824677978f5038537718f9265054927c09563", func := "proteus/proteuslaw15.CompileSites", spec := "compileSites", unfollowed := true, recurses := true, loops := true, apart := false, narrowed := true }
def CompileSitesUptoSaid : Prop := compileSitesUptoRow.holds Try.pinned (OpenSpec.upto compileSitesSpec)

/-- 'proteuslaw15.CompileSums', WHERE WHAT IT READS IS OF BULK AT MOST 1048576: true; the input reads as it did. -/
def compileSumsUptoRow : OpenClaim := { program := "ytmdjepfpgmignaa", sum := "0f01defd4f69258735f14bbc9b1824677978f5038537718f9265054927c09563", func := "proteus/proteuslaw15.CompileSums", spec := "compileSums", unfollowed := true, recurses := true, apart := false, narrowed := true }
def CompileSumsUptoSaid : Prop := compileSumsUptoRow.holds Try.pinned (OpenSpec.upto compileSumsSpec)

/-- 'proteuslaw15.CompileMay', WHERE WHAT IT READS IS OF BULK AT MOST 1048576: true; the input reads as it did. -/
def compileMayUptoRow : OpenClaim := { program := "ytmdjepfpgmignaa", sum := "0f01defd4f69258735f14bbc9b1824677978f5038537718f9265054927c09563", func := "proteus/proteuslaw15.CompileMay", spec := "compileMay", unfollowed := true, recurses := true, loops := true, apart := false, narrowed := true }
def CompileMayUptoSaid : Prop := compileMayUptoRow.holds Try.pinned (OpenSpec.upto compileMaySpec)

end Rows
end Go.Proofs.Ytmdjepfpgmignaa
