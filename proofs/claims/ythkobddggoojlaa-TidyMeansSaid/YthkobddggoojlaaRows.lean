/-
  No cell of these rows narrows 'for every input' (looked for: loops, veiled, ifaces, maps, wideKeys, modest, calm, conditions, laid).
  DERIVED. THE GIVEN ROWS OF THIS SEAT. 3 by the template 'for every input the law returns true; each argument reads behind the call as it read before'; 0 by the template 'total and deterministic' (their statements: YthkobddggoojlaaTotals.lean).
  GIVEN WITH THE SEED: the statements are not yours to turn. If you find one false, say at which input.
  Laid BY PROGRAM, IN A SANDBOX (cutbox-rows.mjs): the forced cells as the released guide's own fill.sh prints them over the translation 19a28e2062885c7b… (all of the seat's roots in one cut). By AI agents, Wed Nov 11 2026. No macro, syntax, notation, axiom, sorry.
-/
import Derived.Test.YthkobddggoojlaaChecked
import GoSem.Claim
import GoSem.ClaimJoined
import GoSem.ClaimMapViews
import Derived.JoinedTies
import Derived.KernelRfl
namespace Go.Proofs.Ythkobddggoojlaa
/- THE CELL 'sum', in the pinned program and in every row, IS THE sha256 OF THE DUMP (.gsa) THAT YthkobddggoojlaaProg.lean LOADS. Nothing in Lean hashes anything: it is a label: what it is worth is what the hold of that sum in a sandbox is worth. -/
noncomputable def Try.pinned : Pinned := { name := "ythkobddggoojlaa", sum := "19a28e2062885c7b7d97dece6fd04c0f088765b8d66b9746d976100fbc4e34b2", checked := Try.checked }
namespace Rows
def none {H : Type} : Left H := { results := [], args := [] }

/-- 'hauberklaw23.TidyTells': WHATEVER THE INPUT: true; the input reads as it did. -/
def tidyTellsSpec : ChangeSpec := { name := "tidyTells", fn := fun _ => fun
  | [d] => { results := [.lit (.bool true)], args := [d] }
  | _ => none }
def tidyTellsRow : OpenClaim := { program := "ythkobddggoojlaa", sum := "19a28e2062885c7b7d97dece6fd04c0f088765b8d66b9746d976100fbc4e34b2", func := "hauberk/hauberklaw23.TidyTells", spec := "tidyTells", unfollowed := true, recurses := true, apart := false }
def TidyTellsSaid : Prop := tidyTellsRow.holds Try.pinned (OpenSpec.ofChange tidyTellsSpec)

/-- ITS FALSE NEIGHBOUR: 'it returns false'. Refute it at one input. -/
def tidyTellsWrong : ChangeSpec := { name := "tidyTells", fn := fun _ => fun
  | [d] => { results := [.lit (.bool false)], args := [d] }
  | _ => none }
def TidyTellsWrongFalsely : Prop := tidyTellsRow.holds Try.pinned (OpenSpec.ofChange tidyTellsWrong)

/-- 'hauberklaw23.TidyAgain': WHATEVER THE INPUT: true; the input reads as it did. -/
def tidyAgainSpec : ChangeSpec := { name := "tidyAgain", fn := fun _ => fun
  | [d] => { results := [.lit (.bool true)], args := [d] }
  | _ => none }
def tidyAgainRow : OpenClaim := { program := "ythkobddggoojlaa", sum := "19a28e2062885c7b7d97dece6fd04c0f088765b8d66b9746d976100fbc4e34b2", func := "hauberk/hauberklaw23.TidyAgain", spec := "tidyAgain", unfollowed := true, recurses := true, apart := false }
def TidyAgainSaid : Prop := tidyAgainRow.holds Try.pinned (OpenSpec.ofChange tidyAgainSpec)

/-- ITS FALSE NEIGHBOUR: 'it returns false'. Refute it at one input. -/
def tidyAgainWrong : ChangeSpec := { name := "tidyAgain", fn := fun _ => fun
  | [d] => { results := [.lit (.bool false)], args := [d] }
  | _ => none }
def TidyAgainWrongFalsely : Prop := tidyAgainRow.holds Try.pinned (OpenSpec.ofChange tidyAgainWrong)

/-- 'hauberklaw23.TidyMeans': WHATEVER THE INPUT: true; the input reads as it did. -/
def tidyMeansSpec : ChangeSpec := { name := "tidyMeans", fn := fun _ => fun
  | [d1, d2, d3] => { results := [.lit (.bool true)], args := [d1, d2, d3] }
  | _ => none }
def tidyMeansRow : OpenClaim := { program := "ythkobddggoojlaa", sum := "19a28e2062885c7b7d97dece6fd04c0f088765b8d66b9746d976100fbc4e34b2", func := "hauberk/hauberklaw23.TidyMeans", spec := "tidyMeans", unfollowed := true, recurses := true, apart := false }
def TidyMeansSaid : Prop := tidyMeansRow.holds Try.pinned (OpenSpec.ofChange tidyMeansSpec)

/-- ITS FALSE NEIGHBOUR: 'it returns false'. Refute it at one input. -/
def tidyMeansWrong : ChangeSpec := { name := "tidyMeans", fn := fun _ => fun
  | [d1, d2, d3] => { results := [.lit (.bool false)], args := [d1, d2, d3] }
  | _ => none }
def TidyMeansWrongFalsely : Prop := tidyMeansRow.holds Try.pinned (OpenSpec.ofChange tidyMeansWrong)

/- THE SECOND FORM. 'bulk': how many values and letters a reading holds, each counted each time it is reached (what is shared counts as often as it is met; a slice's spare places count too). A statement '..UptoSaid' is the law's where the arguments, and the package variables that the reading takes, are together of bulk at most 1048576: NARROWER than '..Said'. Prove '..Said' where nothing that the law and all that it calls make is longer than what came in: it says more and counts as full. Else prove '..UptoSaid'. A law counts once. -/
mutual
def uptoBulk {H : Type} : DataW H → Nat
  | .lit (.string bytes) => bytes.length + 1
  | .lit _ => 1
  | .nil => 1
  | .ptr d => uptoBulk d + 1
  | .slice elems spare => uptoBulkAll elems + uptoBulkAll spare + 1
  | .agg parts => uptoBulkAll parts + 1
  | .iface _ d => uptoBulk d + 1
  | .map entries => uptoBulkEntries entries + 1
  | .held _ => 1
def uptoBulkAll {H : Type} : List (DataW H) → Nat
  | [] => 0
  | d :: r => uptoBulk d + uptoBulkAll r
def uptoBulkEntries {H : Type} : List (Lit × DataW H) → Nat
  | [] => 0
  | x :: r => uptoBulkEntry x + uptoBulkEntries r
def uptoBulkEntry {H : Type} : Lit × DataW H → Nat
  | (.string bytes, d) => bytes.length + uptoBulk d + 1
  | (_, d) => uptoBulk d + 1
 end
def uptoSmall : (H : Type) → List (DataW H) → Bool := fun _ ds => decide (uptoBulkAll ds ≤ 1048576)
def OpenSpec.upto (s : _root_.Go.ChangeSpec) : _root_.Go.OpenSpec := { _root_.Go.OpenSpec.ofChange s with cond := some uptoSmall }

/-- 'hauberklaw23.TidyTells', WHERE WHAT IT READS IS OF BULK AT MOST 1048576: true; the input reads as it did. -/
def tidyTellsUptoRow : OpenClaim := { program := "ythkobddggoojlaa", sum := "19a28e2062885c7b7d97dece6fd04c0f088765b8d66b9746d976100fbc4e34b2", func := "hauberk/hauberklaw23.TidyTells", spec := "tidyTells", unfollowed := true, recurses := true, apart := false, narrowed := true }
def TidyTellsUptoSaid : Prop := tidyTellsUptoRow.holds Try.pinned (OpenSpec.upto tidyTellsSpec)

/-- 'hauberklaw23.TidyAgain', WHERE WHAT IT READS IS OF BULK AT MOST 1048576: true; the input reads as it did. -/
def tidyAgainUptoRow : OpenClaim := { program := "ythkobddggoojlaa", sum := "19a28e2062885c7b7d97dece6fd04c0f088765b8d66b9746d976100fbc4e34b2", func := "hauberk/hauberklaw23.TidyAgain", spec := "tidyAgain", unfollowed := true, recurses := true, apart := false, narrowed := true }
def TidyAgainUptoSaid : Prop := tidyAgainUptoRow.holds Try.pinned (OpenSpec.upto tidyAgainSpec)

/-- 'hauberklaw23.TidyMeans', WHERE WHAT IT READS IS OF BULK AT MOST 1048576: true; the input reads as it did. -/
def tidyMeansUptoRow : OpenClaim := { program := "ythkobddggoojlaa", sum := "19a28e2062885c7b7d97dece6fd04c0f088765b8d66b9746d976100fbc4e34b2", func := "hauberk/hauberklaw23.TidyMeans", spec := "tidyMeans", unfollowed := true, recurses := true, apart := false, narrowed := true }
def TidyMeansUptoSaid : Prop := tidyMeansUptoRow.holds Try.pinned (OpenSpec.upto tidyMeansSpec)

end Rows
end Go.Proofs.Ythkobddggoojlaa
