/-
  No cell of these rows narrows 'for every input' (looked for: loops, veiled, ifaces, maps, wideKeys, modest, calm, conditions, laid).
  DERIVED. THE GIVEN ROWS OF THIS SEAT. 16 by the template 'for every input the law returns true; each argument reads behind the call as it read before'; 0 by the template 'total and deterministic' (their statements: YtiaimceefkdchaaTotals.lean).
  GIVEN WITH THE SEED: the statements are not yours to turn. If you find one false, say at which input.
  Laid BY PROGRAM, IN A SANDBOX (cutbox-rows.mjs): the forced cells as the released guide's own fill.sh prints them over the translation dbf4bd2de2807357… (all of the seat's roots in one cut). By AI agents, Wed Nov 11 2026. No macro, syntax, notation, axiom, sorry.
-/
import Derived.Test.YtiaimceefkdchaaChecked
import GoSem.Claim
import GoSem.ClaimJoined
import GoSem.ClaimMapViews
import Derived.JoinedTies
import Derived.KernelRfl
namespace Go.Proofs.Ytiaimceefkdchaa
/- THE CELL 'sum', in the pinned program and in every row, IS THE sha256 OF THE DUMP (.gsa) THAT YtiaimceefkdchaaProg.lean LOADS. Nothing in Lean hashes anything: it is a label: what it is worth is what the hold of that sum in a sandbox is worth. -/
noncomputable def Try.pinned : Pinned := { name := "ytiaimceefkdchaa", sum := "dbf4bd2de28073576f555049ebc244d5edf738344cd0badfc66f644c02c4cb51", checked := Try.checked }
namespace Rows
def none {H : Type} : Left H := { results := [], args := [] }

/-- 'hauberklaw26.FrameApart': WHATEVER THE INPUT: true; the input reads as it did. -/
def frameApartSpec : ChangeSpec := { name := "frameApart", fn := fun _ => fun
  | [d] => { results := [.lit (.bool true)], args := [d] }
  | _ => none }
def frameApartRow : OpenClaim := { program := "ytiaimceefkdchaa", sum := "dbf4bd2de28073576f555049ebc244d5edf738344cd0badfc66f644c02c4cb51", func := "hauberk/hauberklaw26.FrameApart", spec := "frameApart", apart := false }
def FrameApartSaid : Prop := frameApartRow.holds Try.pinned (OpenSpec.ofChange frameApartSpec)

/-- ITS FALSE NEIGHBOUR: 'it returns false'. Refute it at one input. -/
def frameApartWrong : ChangeSpec := { name := "frameApart", fn := fun _ => fun
  | [d] => { results := [.lit (.bool false)], args := [d] }
  | _ => none }
def FrameApartWrongFalsely : Prop := frameApartRow.holds Try.pinned (OpenSpec.ofChange frameApartWrong)

/-- 'hauberklaw26.FrameTells': WHATEVER THE INPUT: true; the input reads as it did. -/
def frameTellsSpec : ChangeSpec := { name := "frameTells", fn := fun _ => fun
  | [d] => { results := [.lit (.bool true)], args := [d] }
  | _ => none }
def frameTellsRow : OpenClaim := { program := "ytiaimceefkdchaa", sum := "dbf4bd2de28073576f555049ebc244d5edf738344cd0badfc66f644c02c4cb51", func := "hauberk/hauberklaw26.FrameTells", spec := "frameTells", apart := false }
def FrameTellsSaid : Prop := frameTellsRow.holds Try.pinned (OpenSpec.ofChange frameTellsSpec)

/-- ITS FALSE NEIGHBOUR: 'it returns false'. Refute it at one input. -/
def frameTellsWrong : ChangeSpec := { name := "frameTells", fn := fun _ => fun
  | [d] => { results := [.lit (.bool false)], args := [d] }
  | _ => none }
def FrameTellsWrongFalsely : Prop := frameTellsRow.holds Try.pinned (OpenSpec.ofChange frameTellsWrong)

/-- 'hauberklaw26.FrameBase': WHATEVER THE INPUT: true; the input reads as it did. -/
def frameBaseSpec : ChangeSpec := { name := "frameBase", fn := fun _ => fun
  | [d1, d2, d3] => { results := [.lit (.bool true)], args := [d1, d2, d3] }
  | _ => none }
def frameBaseRow : OpenClaim := { program := "ytiaimceefkdchaa", sum := "dbf4bd2de28073576f555049ebc244d5edf738344cd0badfc66f644c02c4cb51", func := "hauberk/hauberklaw26.FrameBase", spec := "frameBase", apart := false }
def FrameBaseSaid : Prop := frameBaseRow.holds Try.pinned (OpenSpec.ofChange frameBaseSpec)

/-- ITS FALSE NEIGHBOUR: 'it returns false'. Refute it at one input. -/
def frameBaseWrong : ChangeSpec := { name := "frameBase", fn := fun _ => fun
  | [d1, d2, d3] => { results := [.lit (.bool false)], args := [d1, d2, d3] }
  | _ => none }
def FrameBaseWrongFalsely : Prop := frameBaseRow.holds Try.pinned (OpenSpec.ofChange frameBaseWrong)

/-- 'hauberklaw20.CopiesTells': WHATEVER THE INPUT: true; the input reads as it did. -/
def copiesTellsSpec : ChangeSpec := { name := "copiesTells", fn := fun _ => fun
  | [d] => { results := [.lit (.bool true)], args := [d] }
  | _ => none }
def copiesTellsRow : OpenClaim := { program := "ytiaimceefkdchaa", sum := "dbf4bd2de28073576f555049ebc244d5edf738344cd0badfc66f644c02c4cb51", func := "hauberk/hauberklaw20.CopiesTells", spec := "copiesTells", apart := false }
def CopiesTellsSaid : Prop := copiesTellsRow.holds Try.pinned (OpenSpec.ofChange copiesTellsSpec)

/-- ITS FALSE NEIGHBOUR: 'it returns false'. Refute it at one input. -/
def copiesTellsWrong : ChangeSpec := { name := "copiesTells", fn := fun _ => fun
  | [d] => { results := [.lit (.bool false)], args := [d] }
  | _ => none }
def CopiesTellsWrongFalsely : Prop := copiesTellsRow.holds Try.pinned (OpenSpec.ofChange copiesTellsWrong)

/-- 'hauberklaw20.CopiesNone': WHATEVER THE INPUT: true; the input reads as it did. -/
def copiesNoneSpec : ChangeSpec := { name := "copiesNone", fn := fun _ => fun
  | [d] => { results := [.lit (.bool true)], args := [d] }
  | _ => none }
def copiesNoneRow : OpenClaim := { program := "ytiaimceefkdchaa", sum := "dbf4bd2de28073576f555049ebc244d5edf738344cd0badfc66f644c02c4cb51", func := "hauberk/hauberklaw20.CopiesNone", spec := "copiesNone", apart := false }
def CopiesNoneSaid : Prop := copiesNoneRow.holds Try.pinned (OpenSpec.ofChange copiesNoneSpec)

/-- ITS FALSE NEIGHBOUR: 'it returns false'. Refute it at one input. -/
def copiesNoneWrong : ChangeSpec := { name := "copiesNone", fn := fun _ => fun
  | [d] => { results := [.lit (.bool false)], args := [d] }
  | _ => none }
def CopiesNoneWrongFalsely : Prop := copiesNoneRow.holds Try.pinned (OpenSpec.ofChange copiesNoneWrong)

/-- 'hauberklaw23.TidyTells': WHATEVER THE INPUT: true; the input reads as it did. -/
def tidyTellsSpec : ChangeSpec := { name := "tidyTells", fn := fun _ => fun
  | [d] => { results := [.lit (.bool true)], args := [d] }
  | _ => none }
def tidyTellsRow : OpenClaim := { program := "ytiaimceefkdchaa", sum := "dbf4bd2de28073576f555049ebc244d5edf738344cd0badfc66f644c02c4cb51", func := "hauberk/hauberklaw23.TidyTells", spec := "tidyTells", unfollowed := true, recurses := true, apart := false }
def TidyTellsSaid : Prop := tidyTellsRow.holds Try.pinned (OpenSpec.ofChange tidyTellsSpec)

/-- ITS FALSE NEIGHBOUR: 'it returns false'. Refute it at one input. -/
def tidyTellsWrong : ChangeSpec := { name := "tidyTells", fn := fun _ => fun
  | [d] => { results := [.lit (.bool false)], args := [d] }
  | _ => none }
def TidyTellsWrongFalsely : Prop := tidyTellsRow.holds Try.pinned (OpenSpec.ofChange tidyTellsWrong)

/-- 'hauberklaw23.TidyAgain': WHATEVER THE INPUT: true; the input reads as it did. -/
def tidyAgainSpec : ChangeSpec := { name := "tidyAgain", fn := fun _ => fun
  | [d] => { results := [.lit (.bool true)], args := [d] }
  | _ => none }
def tidyAgainRow : OpenClaim := { program := "ytiaimceefkdchaa", sum := "dbf4bd2de28073576f555049ebc244d5edf738344cd0badfc66f644c02c4cb51", func := "hauberk/hauberklaw23.TidyAgain", spec := "tidyAgain", unfollowed := true, recurses := true, apart := false }
def TidyAgainSaid : Prop := tidyAgainRow.holds Try.pinned (OpenSpec.ofChange tidyAgainSpec)

/-- ITS FALSE NEIGHBOUR: 'it returns false'. Refute it at one input. -/
def tidyAgainWrong : ChangeSpec := { name := "tidyAgain", fn := fun _ => fun
  | [d] => { results := [.lit (.bool false)], args := [d] }
  | _ => none }
def TidyAgainWrongFalsely : Prop := tidyAgainRow.holds Try.pinned (OpenSpec.ofChange tidyAgainWrong)

/-- 'hauberklaw17.IrChecks': WHATEVER THE INPUT: true; the input reads as it did. -/
def irChecksSpec : ChangeSpec := { name := "irChecks", fn := fun _ => fun
  | [d] => { results := [.lit (.bool true)], args := [d] }
  | _ => none }
def irChecksRow : OpenClaim := { program := "ytiaimceefkdchaa", sum := "dbf4bd2de28073576f555049ebc244d5edf738344cd0badfc66f644c02c4cb51", func := "hauberk/hauberklaw17.IrChecks", spec := "irChecks", apart := false }
def IrChecksSaid : Prop := irChecksRow.holds Try.pinned (OpenSpec.ofChange irChecksSpec)

/-- ITS FALSE NEIGHBOUR: 'it returns false'. Refute it at one input. -/
def irChecksWrong : ChangeSpec := { name := "irChecks", fn := fun _ => fun
  | [d] => { results := [.lit (.bool false)], args := [d] }
  | _ => none }
def IrChecksWrongFalsely : Prop := irChecksRow.holds Try.pinned (OpenSpec.ofChange irChecksWrong)

/-- 'hauberklaw17.IrMore': WHATEVER THE INPUT: true; the input reads as it did. -/
def irMoreSpec : ChangeSpec := { name := "irMore", fn := fun _ => fun
  | [d1, d2, d3, d4] => { results := [.lit (.bool true)], args := [d1, d2, d3, d4] }
  | _ => none }
def irMoreRow : OpenClaim := { program := "ytiaimceefkdchaa", sum := "dbf4bd2de28073576f555049ebc244d5edf738344cd0badfc66f644c02c4cb51", func := "hauberk/hauberklaw17.IrMore", spec := "irMore", apart := false }
def IrMoreSaid : Prop := irMoreRow.holds Try.pinned (OpenSpec.ofChange irMoreSpec)

/-- ITS FALSE NEIGHBOUR: 'it returns false'. Refute it at one input. -/
def irMoreWrong : ChangeSpec := { name := "irMore", fn := fun _ => fun
  | [d1, d2, d3, d4] => { results := [.lit (.bool false)], args := [d1, d2, d3, d4] }
  | _ => none }
def IrMoreWrongFalsely : Prop := irMoreRow.holds Try.pinned (OpenSpec.ofChange irMoreWrong)

/-- 'hauberklaw17.IrTurned': WHATEVER THE INPUT: true; the input reads as it did. -/
def irTurnedSpec : ChangeSpec := { name := "irTurned", fn := fun _ => fun
  | [d1, d2, d3] => { results := [.lit (.bool true)], args := [d1, d2, d3] }
  | _ => none }
def irTurnedRow : OpenClaim := { program := "ytiaimceefkdchaa", sum := "dbf4bd2de28073576f555049ebc244d5edf738344cd0badfc66f644c02c4cb51", func := "hauberk/hauberklaw17.IrTurned", spec := "irTurned", apart := false }
def IrTurnedSaid : Prop := irTurnedRow.holds Try.pinned (OpenSpec.ofChange irTurnedSpec)

/-- ITS FALSE NEIGHBOUR: 'it returns false'. Refute it at one input. -/
def irTurnedWrong : ChangeSpec := { name := "irTurned", fn := fun _ => fun
  | [d1, d2, d3] => { results := [.lit (.bool false)], args := [d1, d2, d3] }
  | _ => none }
def IrTurnedWrongFalsely : Prop := irTurnedRow.holds Try.pinned (OpenSpec.ofChange irTurnedWrong)

/-- 'hauberklaw19.FoldTells': WHATEVER THE INPUT: true; the input reads as it did. -/
def foldTellsSpec : ChangeSpec := { name := "foldTells", fn := fun _ => fun
  | [d] => { results := [.lit (.bool true)], args := [d] }
  | _ => none }
def foldTellsRow : OpenClaim := { program := "ytiaimceefkdchaa", sum := "dbf4bd2de28073576f555049ebc244d5edf738344cd0badfc66f644c02c4cb51", func := "hauberk/hauberklaw19.FoldTells", spec := "foldTells", apart := false }
def FoldTellsSaid : Prop := foldTellsRow.holds Try.pinned (OpenSpec.ofChange foldTellsSpec)

/-- ITS FALSE NEIGHBOUR: 'it returns false'. Refute it at one input. -/
def foldTellsWrong : ChangeSpec := { name := "foldTells", fn := fun _ => fun
  | [d] => { results := [.lit (.bool false)], args := [d] }
  | _ => none }
def FoldTellsWrongFalsely : Prop := foldTellsRow.holds Try.pinned (OpenSpec.ofChange foldTellsWrong)

/-- 'hauberklaw19.FoldAgain': WHATEVER THE INPUT: true; the input reads as it did. -/
def foldAgainSpec : ChangeSpec := { name := "foldAgain", fn := fun _ => fun
  | [d] => { results := [.lit (.bool true)], args := [d] }
  | _ => none }
def foldAgainRow : OpenClaim := { program := "ytiaimceefkdchaa", sum := "dbf4bd2de28073576f555049ebc244d5edf738344cd0badfc66f644c02c4cb51", func := "hauberk/hauberklaw19.FoldAgain", spec := "foldAgain", apart := false }
def FoldAgainSaid : Prop := foldAgainRow.holds Try.pinned (OpenSpec.ofChange foldAgainSpec)

/-- ITS FALSE NEIGHBOUR: 'it returns false'. Refute it at one input. -/
def foldAgainWrong : ChangeSpec := { name := "foldAgain", fn := fun _ => fun
  | [d] => { results := [.lit (.bool false)], args := [d] }
  | _ => none }
def FoldAgainWrongFalsely : Prop := foldAgainRow.holds Try.pinned (OpenSpec.ofChange foldAgainWrong)

/-- 'hauberklaw19.FoldAll': WHATEVER THE INPUT: true; the input reads as it did. -/
def foldAllSpec : ChangeSpec := { name := "foldAll", fn := fun _ => fun
  | [d1, d2, d3] => { results := [.lit (.bool true)], args := [d1, d2, d3] }
  | _ => none }
def foldAllRow : OpenClaim := { program := "ytiaimceefkdchaa", sum := "dbf4bd2de28073576f555049ebc244d5edf738344cd0badfc66f644c02c4cb51", func := "hauberk/hauberklaw19.FoldAll", spec := "foldAll", apart := false }
def FoldAllSaid : Prop := foldAllRow.holds Try.pinned (OpenSpec.ofChange foldAllSpec)

/-- ITS FALSE NEIGHBOUR: 'it returns false'. Refute it at one input. -/
def foldAllWrong : ChangeSpec := { name := "foldAll", fn := fun _ => fun
  | [d1, d2, d3] => { results := [.lit (.bool false)], args := [d1, d2, d3] }
  | _ => none }
def FoldAllWrongFalsely : Prop := foldAllRow.holds Try.pinned (OpenSpec.ofChange foldAllWrong)

/-- 'hauberklaw20.CopiesMeans': WHATEVER THE INPUT: true; the input reads as it did. -/
def copiesMeansSpec : ChangeSpec := { name := "copiesMeans", fn := fun _ => fun
  | [d1, d2, d3] => { results := [.lit (.bool true)], args := [d1, d2, d3] }
  | _ => none }
def copiesMeansRow : OpenClaim := { program := "ytiaimceefkdchaa", sum := "dbf4bd2de28073576f555049ebc244d5edf738344cd0badfc66f644c02c4cb51", func := "hauberk/hauberklaw20.CopiesMeans", spec := "copiesMeans", apart := false }
def CopiesMeansSaid : Prop := copiesMeansRow.holds Try.pinned (OpenSpec.ofChange copiesMeansSpec)

/-- ITS FALSE NEIGHBOUR: 'it returns false'. Refute it at one input. -/
def copiesMeansWrong : ChangeSpec := { name := "copiesMeans", fn := fun _ => fun
  | [d1, d2, d3] => { results := [.lit (.bool false)], args := [d1, d2, d3] }
  | _ => none }
def CopiesMeansWrongFalsely : Prop := copiesMeansRow.holds Try.pinned (OpenSpec.ofChange copiesMeansWrong)

/-- 'hauberklaw23.TidyMeans': WHATEVER THE INPUT: true; the input reads as it did. -/
def tidyMeansSpec : ChangeSpec := { name := "tidyMeans", fn := fun _ => fun
  | [d1, d2, d3] => { results := [.lit (.bool true)], args := [d1, d2, d3] }
  | _ => none }
def tidyMeansRow : OpenClaim := { program := "ytiaimceefkdchaa", sum := "dbf4bd2de28073576f555049ebc244d5edf738344cd0badfc66f644c02c4cb51", func := "hauberk/hauberklaw23.TidyMeans", spec := "tidyMeans", unfollowed := true, recurses := true, apart := false }
def TidyMeansSaid : Prop := tidyMeansRow.holds Try.pinned (OpenSpec.ofChange tidyMeansSpec)

/-- ITS FALSE NEIGHBOUR: 'it returns false'. Refute it at one input. -/
def tidyMeansWrong : ChangeSpec := { name := "tidyMeans", fn := fun _ => fun
  | [d1, d2, d3] => { results := [.lit (.bool false)], args := [d1, d2, d3] }
  | _ => none }
def TidyMeansWrongFalsely : Prop := tidyMeansRow.holds Try.pinned (OpenSpec.ofChange tidyMeansWrong)

/-- 'hauberklaw19.FoldMeans': WHATEVER THE INPUT: true; the input reads as it did. -/
def foldMeansSpec : ChangeSpec := { name := "foldMeans", fn := fun _ => fun
  | [d1, d2, d3] => { results := [.lit (.bool true)], args := [d1, d2, d3] }
  | _ => none }
def foldMeansRow : OpenClaim := { program := "ytiaimceefkdchaa", sum := "dbf4bd2de28073576f555049ebc244d5edf738344cd0badfc66f644c02c4cb51", func := "hauberk/hauberklaw19.FoldMeans", spec := "foldMeans", apart := false }
def FoldMeansSaid : Prop := foldMeansRow.holds Try.pinned (OpenSpec.ofChange foldMeansSpec)

/-- ITS FALSE NEIGHBOUR: 'it returns false'. Refute it at one input. -/
def foldMeansWrong : ChangeSpec := { name := "foldMeans", fn := fun _ => fun
  | [d1, d2, d3] => { results := [.lit (.bool false)], args := [d1, d2, d3] }
  | _ => none }
def FoldMeansWrongFalsely : Prop := foldMeansRow.holds Try.pinned (OpenSpec.ofChange foldMeansWrong)

/- THE SECOND FORM. 'bulk': how many values and letters a reading holds, each counted each time it is reached (what is shared counts as often as it is met; a slice's spare places count too). A statement '..UptoSaid' is the law's where the arguments, and the package variables that the reading takes, are together of bulk at most 1048576: NARROWER than '..Said'. Prove '..Said' where nothing that the law and all that it calls make is longer than what came in: it says more and counts as full. Else prove '..UptoSaid'. A law counts once. -/
mutual
def uptoBulk {H : Type} : DataW H → Nat
  | .lit (.string bytes) => bytes.length + 1
  | .lit _ => 1
  | .nil => 1
  | .ptr d => uptoBulk d + 1
  | .slice elems spare => uptoBulkAll elems + uptoBulkAll spare + 1
  | .agg parts => uptoBulkAll parts + 1
  | .iface _ d => uptoBulk d + 1
  | .map entries => uptoBulkEntries entries + 1
  | .held _ => 1
def uptoBulkAll {H : Type} : List (DataW H) → Nat
  | [] => 0
  | d :: r => uptoBulk d + uptoBulkAll r
def uptoBulkEntries {H : Type} : List (Lit × DataW H) → Nat
  | [] => 0
  | x :: r => uptoBulkEntry x + uptoBulkEntries r
def uptoBulkEntry {H : Type} : Lit × DataW H → Nat
  | (.string bytes, d) => bytes.length + uptoBulk d + 1
  | (_, d) => uptoBulk d + 1
 end
def uptoSmall : (H : Type) → List (DataW H) → Bool := fun _ ds => decide (uptoBulkAll ds ≤ 1048576)
def OpenSpec.upto (s : _root_.Go.ChangeSpec) : _root_.Go.OpenSpec := { _root_.Go.OpenSpec.ofChange s with cond := some uptoSmall }

/-- 'hauberklaw26.FrameApart', WHERE WHAT IT READS IS OF BULK AT MOST 1048576: true; the input reads as it did. -/
def frameApartUptoRow : OpenClaim := { program := "ytiaimceefkdchaa", sum := "dbf4bd2de28073576f555049ebc244d5edf738344cd0badfc66f644c02c4cb51", func := "hauberk/hauberklaw26.FrameApart", spec := "frameApart", apart := false, narrowed := true }
def FrameApartUptoSaid : Prop := frameApartUptoRow.holds Try.pinned (OpenSpec.upto frameApartSpec)

/-- 'hauberklaw26.FrameTells', WHERE WHAT IT READS IS OF BULK AT MOST 1048576: true; the input reads as it did. -/
def frameTellsUptoRow : OpenClaim := { program := "ytiaimceefkdchaa", sum := "dbf4bd2de28073576f555049ebc244d5edf738344cd0badfc66f644c02c4cb51", func := "hauberk/hauberklaw26.FrameTells", spec := "frameTells", apart := false, narrowed := true }
def FrameTellsUptoSaid : Prop := frameTellsUptoRow.holds Try.pinned (OpenSpec.upto frameTellsSpec)

/-- 'hauberklaw26.FrameBase', WHERE WHAT IT READS IS OF BULK AT MOST 1048576: true; the input reads as it did. -/
def frameBaseUptoRow : OpenClaim := { program := "ytiaimceefkdchaa", sum := "dbf4bd2de28073576f555049ebc244d5edf738344cd0badfc66f644c02c4cb51", func := "hauberk/hauberklaw26.FrameBase", spec := "frameBase", apart := false, narrowed := true }
def FrameBaseUptoSaid : Prop := frameBaseUptoRow.holds Try.pinned (OpenSpec.upto frameBaseSpec)

/-- 'hauberklaw20.CopiesTells', WHERE WHAT IT READS IS OF BULK AT MOST 1048576: true; the input reads as it did. -/
def copiesTellsUptoRow : OpenClaim := { program := "ytiaimceefkdchaa", sum := "dbf4bd2de28073576f555049ebc244d5edf738344cd0badfc66f644c02c4cb51", func := "hauberk/hauberklaw20.CopiesTells", spec := "copiesTells", apart := false, narrowed := true }
def CopiesTellsUptoSaid : Prop := copiesTellsUptoRow.holds Try.pinned (OpenSpec.upto copiesTellsSpec)

/-- 'hauberklaw20.CopiesNone', WHERE WHAT IT READS IS OF BULK AT MOST 1048576: true; the input reads as it did. -/
def copiesNoneUptoRow : OpenClaim := { program := "ytiaimceefkdchaa", sum := "dbf4bd2de28073576f555049ebc244d5edf738344cd0badfc66f644c02c4cb51", func := "hauberk/hauberklaw20.CopiesNone", spec := "copiesNone", apart := false, narrowed := true }
def CopiesNoneUptoSaid : Prop := copiesNoneUptoRow.holds Try.pinned (OpenSpec.upto copiesNoneSpec)

/-- 'hauberklaw23.TidyTells', WHERE WHAT IT READS IS OF BULK AT MOST 1048576: true; the input reads as it did. -/
def tidyTellsUptoRow : OpenClaim := { program := "ytiaimceefkdchaa", sum := "dbf4bd2de28073576f555049ebc244d5edf738344cd0badfc66f644c02c4cb51", func := "hauberk/hauberklaw23.TidyTells", spec := "tidyTells", unfollowed := true, recurses := true, apart := false, narrowed := true }
def TidyTellsUptoSaid : Prop := tidyTellsUptoRow.holds Try.pinned (OpenSpec.upto tidyTellsSpec)

/-- 'hauberklaw23.TidyAgain', WHERE WHAT IT READS IS OF BULK AT MOST 1048576: true; the input reads as it did. -/
def tidyAgainUptoRow : OpenClaim := { program := "ytiaimceefkdchaa", sum := "dbf4bd2de28073576f555049ebc244d5edf738344cd0badfc66f644c02c4cb51", func := "hauberk/hauberklaw23.TidyAgain", spec := "tidyAgain", unfollowed := true, recurses := true, apart := false, narrowed := true }
def TidyAgainUptoSaid : Prop := tidyAgainUptoRow.holds Try.pinned (OpenSpec.upto tidyAgainSpec)

/-- 'hauberklaw17.IrChecks', WHERE WHAT IT READS IS OF BULK AT MOST 1048576: true; the input reads as it did. -/
def irChecksUptoRow : OpenClaim := { program := "ytiaimceefkdchaa", sum := "dbf4bd2de28073576f555049ebc244d5edf738344cd0badfc66f644c02c4cb51", func := "hauberk/hauberklaw17.IrChecks", spec := "irChecks", apart := false, narrowed := true }
def IrChecksUptoSaid : Prop := irChecksUptoRow.holds Try.pinned (OpenSpec.upto irChecksSpec)

/-- 'hauberklaw17.IrMore', WHERE WHAT IT READS IS OF BULK AT MOST 1048576: true; the input reads as it did. -/
def irMoreUptoRow : OpenClaim := { program := "ytiaimceefkdchaa", sum := "dbf4bd2de28073576f555049ebc244d5edf738344cd0badfc66f644c02c4cb51", func := "hauberk/hauberklaw17.IrMore", spec := "irMore", apart := false, narrowed := true }
def IrMoreUptoSaid : Prop := irMoreUptoRow.holds Try.pinned (OpenSpec.upto irMoreSpec)

/-- 'hauberklaw17.IrTurned', WHERE WHAT IT READS IS OF BULK AT MOST 1048576: true; the input reads as it did. -/
def irTurnedUptoRow : OpenClaim := { program := "ytiaimceefkdchaa", sum := "dbf4bd2de28073576f555049ebc244d5edf738344cd0badfc66f644c02c4cb51", func := "hauberk/hauberklaw17.IrTurned", spec := "irTurned", apart := false, narrowed := true }
def IrTurnedUptoSaid : Prop := irTurnedUptoRow.holds Try.pinned (OpenSpec.upto irTurnedSpec)

/-- 'hauberklaw19.FoldTells', WHERE WHAT IT READS IS OF BULK AT MOST 1048576: true; the input reads as it did. -/
def foldTellsUptoRow : OpenClaim := { program := "ytiaimceefkdchaa", sum := "dbf4bd2de28073576f555049ebc244d5edf738344cd0badfc66f644c02c4cb51", func := "hauberk/hauberklaw19.FoldTells", spec := "foldTells", apart := false, narrowed := true }
def FoldTellsUptoSaid : Prop := foldTellsUptoRow.holds Try.pinned (OpenSpec.upto foldTellsSpec)

/-- 'hauberklaw19.FoldAgain', WHERE WHAT IT READS IS OF BULK AT MOST 1048576: true; the input reads as it did. -/
def foldAgainUptoRow : OpenClaim := { program := "ytiaimceefkdchaa", sum := "dbf4bd2de28073576f555049ebc244d5edf738344cd0badfc66f644c02c4cb51", func := "hauberk/hauberklaw19.FoldAgain", spec := "foldAgain", apart := false, narrowed := true }
def FoldAgainUptoSaid : Prop := foldAgainUptoRow.holds Try.pinned (OpenSpec.upto foldAgainSpec)

/-- 'hauberklaw19.FoldAll', WHERE WHAT IT READS IS OF BULK AT MOST 1048576: true; the input reads as it did. -/
def foldAllUptoRow : OpenClaim := { program := "ytiaimceefkdchaa", sum := "dbf4bd2de28073576f555049ebc244d5edf738344cd0badfc66f644c02c4cb51", func := "hauberk/hauberklaw19.FoldAll", spec := "foldAll", apart := false, narrowed := true }
def FoldAllUptoSaid : Prop := foldAllUptoRow.holds Try.pinned (OpenSpec.upto foldAllSpec)

/-- 'hauberklaw20.CopiesMeans', WHERE WHAT IT READS IS OF BULK AT MOST 1048576: true; the input reads as it did. -/
def copiesMeansUptoRow : OpenClaim := { program := "ytiaimceefkdchaa", sum := "dbf4bd2de28073576f555049ebc244d5edf738344cd0badfc66f644c02c4cb51", func := "hauberk/hauberklaw20.CopiesMeans", spec := "copiesMeans", apart := false, narrowed := true }
def CopiesMeansUptoSaid : Prop := copiesMeansUptoRow.holds Try.pinned (OpenSpec.upto copiesMeansSpec)

/-- 'hauberklaw23.TidyMeans', WHERE WHAT IT READS IS OF BULK AT MOST 1048576: true; the input reads as it did. -/
def tidyMeansUptoRow : OpenClaim := { program := "ytiaimceefkdchaa", sum := "dbf4bd2de28073576f555049ebc244d5edf738344cd0badfc66f644c02c4cb51", func := "hauberk/hauberklaw23.TidyMeans", spec := "tidyMeans", unfollowed := true, recurses := true, apart := false, narrowed := true }
def TidyMeansUptoSaid : Prop := tidyMeansUptoRow.holds Try.pinned (OpenSpec.upto tidyMeansSpec)

/-- 'hauberklaw19.FoldMeans', WHERE WHAT IT READS IS OF BULK AT MOST 1048576: true; the input reads as it did. -/
def foldMeansUptoRow : OpenClaim := { program := "ytiaimceefkdchaa", sum := "dbf4bd2de28073576f555049ebc244d5edf738344cd0badfc66f644c02c4cb51", func := "hauberk/hauberklaw19.FoldMeans", spec := "foldMeans", apart := false, narrowed := true }
def FoldMeansUptoSaid : Prop := foldMeansUptoRow.holds Try.pinned (OpenSpec.upto foldMeansSpec)

end Rows
end Go.Proofs.Ytiaimceefkdchaa
