/-
  No cell of these rows narrows 'for every input' (looked for: loops, veiled, ifaces, maps, wideKeys, modest, calm, conditions, laid).
  DERIVED. THE GIVEN ROWS OF THIS SEAT. 10 by the template 'for every input the law returns true; each argument reads behind the call as it read before'; 0 by the template 'total and deterministic' (their statements: YtgkaempkapnfcaaTotals.lean).
  GIVEN WITH THE SEED: the statements are not yours to turn. If you find one false, say at which input.
  Laid BY PROGRAM, IN A SANDBOX (cutbox-rows.mjs): the forced cells as the released guide's own fill.sh prints them over the translation 990274b412534a50… (all of the seat's roots in one cut). By AI agents, Wed Nov 11 2026. No macro, syntax, notation, axiom, sorry.
-/
import Derived.Test.YtgkaempkapnfcaaChecked
import GoSem.Claim
import GoSem.ClaimJoined
import GoSem.ClaimMapViews
import Derived.JoinedTies
import Derived.KernelRfl
namespace Go.Proofs.Ytgkaempkapnfcaa
/- THE CELL 'sum', in the pinned program and in every row, IS THE sha256 OF THE DUMP (.gsa) THAT YtgkaempkapnfcaaProg.lean LOADS. Nothing in Lean hashes anything: it is a label: what it is worth is what the hold of that sum in a sandbox is worth. -/
noncomputable def Try.pinned : Pinned := { name := "ytgkaempkapnfcaa", sum := "990274b412534a50ad7f3d032532db1e61bd26140bbac7003a3f9443e03d0c61", checked := Try.checked }
namespace Rows
def none {H : Type} : Left H := { results := [], args := [] }

/-- 'hauberklaw01.WordSums': WHATEVER THE INPUT: true; the input reads as it did. -/
def wordSumsSpec : ChangeSpec := { name := "wordSums", fn := fun _ => fun
  | [d1, d2] => { results := [.lit (.bool true)], args := [d1, d2] }
  | _ => none }
def wordSumsRow : OpenClaim := { program := "ytgkaempkapnfcaa", sum := "990274b412534a50ad7f3d032532db1e61bd26140bbac7003a3f9443e03d0c61", func := "hauberk/hauberklaw01.WordSums", spec := "wordSums", apart := false }
def WordSumsSaid : Prop := wordSumsRow.holds Try.pinned (OpenSpec.ofChange wordSumsSpec)

/-- ITS FALSE NEIGHBOUR: 'it returns false'. Refute it at one input. -/
def wordSumsWrong : ChangeSpec := { name := "wordSums", fn := fun _ => fun
  | [d1, d2] => { results := [.lit (.bool false)], args := [d1, d2] }
  | _ => none }
def WordSumsWrongFalsely : Prop := wordSumsRow.holds Try.pinned (OpenSpec.ofChange wordSumsWrong)

/-- 'hauberklaw01.WordBits': WHATEVER THE INPUT: true; the input reads as it did. -/
def wordBitsSpec : ChangeSpec := { name := "wordBits", fn := fun _ => fun
  | [d1, d2, d3] => { results := [.lit (.bool true)], args := [d1, d2, d3] }
  | _ => none }
def wordBitsRow : OpenClaim := { program := "ytgkaempkapnfcaa", sum := "990274b412534a50ad7f3d032532db1e61bd26140bbac7003a3f9443e03d0c61", func := "hauberk/hauberklaw01.WordBits", spec := "wordBits", apart := false }
def WordBitsSaid : Prop := wordBitsRow.holds Try.pinned (OpenSpec.ofChange wordBitsSpec)

/-- ITS FALSE NEIGHBOUR: 'it returns false'. Refute it at one input. -/
def wordBitsWrong : ChangeSpec := { name := "wordBits", fn := fun _ => fun
  | [d1, d2, d3] => { results := [.lit (.bool false)], args := [d1, d2, d3] }
  | _ => none }
def WordBitsWrongFalsely : Prop := wordBitsRow.holds Try.pinned (OpenSpec.ofChange wordBitsWrong)

/-- 'hauberklaw01.WordShifts': WHATEVER THE INPUT: true; the input reads as it did. -/
def wordShiftsSpec : ChangeSpec := { name := "wordShifts", fn := fun _ => fun
  | [d1, d2] => { results := [.lit (.bool true)], args := [d1, d2] }
  | _ => none }
def wordShiftsRow : OpenClaim := { program := "ytgkaempkapnfcaa", sum := "990274b412534a50ad7f3d032532db1e61bd26140bbac7003a3f9443e03d0c61", func := "hauberk/hauberklaw01.WordShifts", spec := "wordShifts", apart := false }
def WordShiftsSaid : Prop := wordShiftsRow.holds Try.pinned (OpenSpec.ofChange wordShiftsSpec)

/-- ITS FALSE NEIGHBOUR: 'it returns false'. Refute it at one input. -/
def wordShiftsWrong : ChangeSpec := { name := "wordShifts", fn := fun _ => fun
  | [d1, d2] => { results := [.lit (.bool false)], args := [d1, d2] }
  | _ => none }
def WordShiftsWrongFalsely : Prop := wordShiftsRow.holds Try.pinned (OpenSpec.ofChange wordShiftsWrong)

/-- 'hauberklaw01.WordRings': WHATEVER THE INPUT: true; the input reads as it did. -/
def wordRingsSpec : ChangeSpec := { name := "wordRings", fn := fun _ => fun
  | [d1, d2, d3] => { results := [.lit (.bool true)], args := [d1, d2, d3] }
  | _ => none }
def wordRingsRow : OpenClaim := { program := "ytgkaempkapnfcaa", sum := "990274b412534a50ad7f3d032532db1e61bd26140bbac7003a3f9443e03d0c61", func := "hauberk/hauberklaw01.WordRings", spec := "wordRings", apart := false }
def WordRingsSaid : Prop := wordRingsRow.holds Try.pinned (OpenSpec.ofChange wordRingsSpec)

/-- ITS FALSE NEIGHBOUR: 'it returns false'. Refute it at one input. -/
def wordRingsWrong : ChangeSpec := { name := "wordRings", fn := fun _ => fun
  | [d1, d2, d3] => { results := [.lit (.bool false)], args := [d1, d2, d3] }
  | _ => none }
def WordRingsWrongFalsely : Prop := wordRingsRow.holds Try.pinned (OpenSpec.ofChange wordRingsWrong)

/-- 'hauberklaw36.WalkOf': WHATEVER THE INPUT: true; the input reads as it did. -/
def walkOfSpec : ChangeSpec := { name := "walkOf", fn := fun _ => fun
  | [d] => { results := [.lit (.bool true)], args := [d] }
  | _ => none }
def walkOfRow : OpenClaim := { program := "ytgkaempkapnfcaa", sum := "990274b412534a50ad7f3d032532db1e61bd26140bbac7003a3f9443e03d0c61", func := "hauberk/hauberklaw36.WalkOf", spec := "walkOf", apart := false }
def WalkOfSaid : Prop := walkOfRow.holds Try.pinned (OpenSpec.ofChange walkOfSpec)

/-- ITS FALSE NEIGHBOUR: 'it returns false'. Refute it at one input. -/
def walkOfWrong : ChangeSpec := { name := "walkOf", fn := fun _ => fun
  | [d] => { results := [.lit (.bool false)], args := [d] }
  | _ => none }
def WalkOfWrongFalsely : Prop := walkOfRow.holds Try.pinned (OpenSpec.ofChange walkOfWrong)

/-- 'hauberklaw01.WordMasks': WHATEVER THE INPUT: true; the input reads as it did. -/
def wordMasksSpec : ChangeSpec := { name := "wordMasks", fn := fun _ => fun
  | [d1, d2, d3] => { results := [.lit (.bool true)], args := [d1, d2, d3] }
  | _ => none }
def wordMasksRow : OpenClaim := { program := "ytgkaempkapnfcaa", sum := "990274b412534a50ad7f3d032532db1e61bd26140bbac7003a3f9443e03d0c61", func := "hauberk/hauberklaw01.WordMasks", spec := "wordMasks", apart := false }
def WordMasksSaid : Prop := wordMasksRow.holds Try.pinned (OpenSpec.ofChange wordMasksSpec)

/-- ITS FALSE NEIGHBOUR: 'it returns false'. Refute it at one input. -/
def wordMasksWrong : ChangeSpec := { name := "wordMasks", fn := fun _ => fun
  | [d1, d2, d3] => { results := [.lit (.bool false)], args := [d1, d2, d3] }
  | _ => none }
def WordMasksWrongFalsely : Prop := wordMasksRow.holds Try.pinned (OpenSpec.ofChange wordMasksWrong)

/-- 'hauberklaw01.WordBack': WHATEVER THE INPUT: true; the input reads as it did. -/
def wordBackSpec : ChangeSpec := { name := "wordBack", fn := fun _ => fun
  | [d1, d2, d3] => { results := [.lit (.bool true)], args := [d1, d2, d3] }
  | _ => none }
def wordBackRow : OpenClaim := { program := "ytgkaempkapnfcaa", sum := "990274b412534a50ad7f3d032532db1e61bd26140bbac7003a3f9443e03d0c61", func := "hauberk/hauberklaw01.WordBack", spec := "wordBack", apart := false }
def WordBackSaid : Prop := wordBackRow.holds Try.pinned (OpenSpec.ofChange wordBackSpec)

/-- ITS FALSE NEIGHBOUR: 'it returns false'. Refute it at one input. -/
def wordBackWrong : ChangeSpec := { name := "wordBack", fn := fun _ => fun
  | [d1, d2, d3] => { results := [.lit (.bool false)], args := [d1, d2, d3] }
  | _ => none }
def WordBackWrongFalsely : Prop := wordBackRow.holds Try.pinned (OpenSpec.ofChange wordBackWrong)

/-- 'hauberklaw36.WalkJoins': WHATEVER THE INPUT: true; the input reads as it did. -/
def walkJoinsSpec : ChangeSpec := { name := "walkJoins", fn := fun _ => fun
  | [d1, d2] => { results := [.lit (.bool true)], args := [d1, d2] }
  | _ => none }
def walkJoinsRow : OpenClaim := { program := "ytgkaempkapnfcaa", sum := "990274b412534a50ad7f3d032532db1e61bd26140bbac7003a3f9443e03d0c61", func := "hauberk/hauberklaw36.WalkJoins", spec := "walkJoins", apart := false }
def WalkJoinsSaid : Prop := walkJoinsRow.holds Try.pinned (OpenSpec.ofChange walkJoinsSpec)

/-- ITS FALSE NEIGHBOUR: 'it returns false'. Refute it at one input. -/
def walkJoinsWrong : ChangeSpec := { name := "walkJoins", fn := fun _ => fun
  | [d1, d2] => { results := [.lit (.bool false)], args := [d1, d2] }
  | _ => none }
def WalkJoinsWrongFalsely : Prop := walkJoinsRow.holds Try.pinned (OpenSpec.ofChange walkJoinsWrong)

/-- 'hauberklaw36.WalkGroup': WHATEVER THE INPUT: true; the input reads as it did. -/
def walkGroupSpec : ChangeSpec := { name := "walkGroup", fn := fun _ => fun
  | [d1, d2, d3] => { results := [.lit (.bool true)], args := [d1, d2, d3] }
  | _ => none }
def walkGroupRow : OpenClaim := { program := "ytgkaempkapnfcaa", sum := "990274b412534a50ad7f3d032532db1e61bd26140bbac7003a3f9443e03d0c61", func := "hauberk/hauberklaw36.WalkGroup", spec := "walkGroup", apart := false }
def WalkGroupSaid : Prop := walkGroupRow.holds Try.pinned (OpenSpec.ofChange walkGroupSpec)

/-- ITS FALSE NEIGHBOUR: 'it returns false'. Refute it at one input. -/
def walkGroupWrong : ChangeSpec := { name := "walkGroup", fn := fun _ => fun
  | [d1, d2, d3] => { results := [.lit (.bool false)], args := [d1, d2, d3] }
  | _ => none }
def WalkGroupWrongFalsely : Prop := walkGroupRow.holds Try.pinned (OpenSpec.ofChange walkGroupWrong)

/-- 'hauberklaw36.WalkSeen': WHATEVER THE INPUT: true; the input reads as it did. -/
def walkSeenSpec : ChangeSpec := { name := "walkSeen", fn := fun _ => fun
  | [d1, d2] => { results := [.lit (.bool true)], args := [d1, d2] }
  | _ => none }
def walkSeenRow : OpenClaim := { program := "ytgkaempkapnfcaa", sum := "990274b412534a50ad7f3d032532db1e61bd26140bbac7003a3f9443e03d0c61", func := "hauberk/hauberklaw36.WalkSeen", spec := "walkSeen", apart := false }
def WalkSeenSaid : Prop := walkSeenRow.holds Try.pinned (OpenSpec.ofChange walkSeenSpec)

/-- ITS FALSE NEIGHBOUR: 'it returns false'. Refute it at one input. -/
def walkSeenWrong : ChangeSpec := { name := "walkSeen", fn := fun _ => fun
  | [d1, d2] => { results := [.lit (.bool false)], args := [d1, d2] }
  | _ => none }
def WalkSeenWrongFalsely : Prop := walkSeenRow.holds Try.pinned (OpenSpec.ofChange walkSeenWrong)

/- THE SECOND FORM. 'bulk': how many values and letters a reading holds, each counted each time it is reached (what is shared counts as often as it is met; a slice's spare places count too). A statement '..UptoSaid' is the law's where the arguments, and the package variables that the reading takes, are together of bulk at most 1048576: NARROWER than '..Said'. Prove '..Said' where nothing that the law and all that it calls make is longer than what came in: it says more and counts as full. Else prove '..UptoSaid'. A law counts once. -/
mutual
def uptoBulk {H : Type} : DataW H → Nat
  | .lit (.string bytes) => bytes.length + 1
  | .lit _ => 1
  | .nil => 1
  | .ptr d => uptoBulk d + 1
  | .slice elems spare => uptoBulkAll elems + uptoBulkAll spare + 1
  | .agg parts => uptoBulkAll parts + 1
  | .iface _ d => uptoBulk d + 1
  | .map entries => uptoBulkEntries entries + 1
  | .held _ => 1
def uptoBulkAll {H : Type} : List (DataW H) → Nat
  | [] => 0
  | d :: r => uptoBulk d + uptoBulkAll r
def uptoBulkEntries {H : Type} : List (Lit × DataW H) → Nat
  | [] => 0
  | x :: r => uptoBulkEntry x + uptoBulkEntries r
def uptoBulkEntry {H : Type} : Lit × DataW H → Nat
  | (.string bytes, d) => bytes.length + uptoBulk d + 1
  | (_, d) => uptoBulk d + 1
 end
def uptoSmall : (H : Type) → List (DataW H) → Bool := fun _ ds => decide (uptoBulkAll ds ≤ 1048576)
def OpenSpec.upto (s : _root_.Go.ChangeSpec) : _root_.Go.OpenSpec := { _root_.Go.OpenSpec.ofChange s with cond := some uptoSmall }

/-- 'hauberklaw01.WordSums', WHERE WHAT IT READS IS OF BULK AT MOST 1048576: true; the input reads as it did. -/
def wordSumsUptoRow : OpenClaim := { program := "ytgkaempkapnfcaa", sum := "990274b412534a50ad7f3d032532db1e61bd26140bbac7003a3f9443e03d0c61", func := "hauberk/hauberklaw01.WordSums", spec := "wordSums", apart := false, narrowed := true }
def WordSumsUptoSaid : Prop := wordSumsUptoRow.holds Try.pinned (OpenSpec.upto wordSumsSpec)

/-- 'hauberklaw01.WordBits', WHERE WHAT IT READS IS OF BULK AT MOST 1048576: true; the input reads as it did. -/
def wordBitsUptoRow : OpenClaim := { program := "ytgkaempkapnfcaa", sum := "990274b412534a50ad7f3d032532db1e61bd26140bbac7003a3f9443e03d0c61", func := "hauberk/hauberklaw01.WordBits", spec := "wordBits", apart := false, narrowed := true }
def WordBitsUptoSaid : Prop := wordBitsUptoRow.holds Try.pinned (OpenSpec.upto wordBitsSpec)

/-- 'hauberklaw01.WordShifts', WHERE WHAT IT READS IS OF BULK AT MOST 1048576: true; the input reads as it did. -/
def wordShiftsUptoRow : OpenClaim := { program := "ytgkaempkapnfcaa", sum := "990274b412534a50ad7f3d032532db1e61bd26140bbac7003a3f9443e03d0c61", func := "hauberk/hauberklaw01.WordShifts", spec := "wordShifts", apart := false, narrowed := true }
def WordShiftsUptoSaid : Prop := wordShiftsUptoRow.holds Try.pinned (OpenSpec.upto wordShiftsSpec)

/-- 'hauberklaw01.WordRings', WHERE WHAT IT READS IS OF BULK AT MOST 1048576: true; the input reads as it did. -/
def wordRingsUptoRow : OpenClaim := { program := "ytgkaempkapnfcaa", sum := "990274b412534a50ad7f3d032532db1e61bd26140bbac7003a3f9443e03d0c61", func := "hauberk/hauberklaw01.WordRings", spec := "wordRings", apart := false, narrowed := true }
def WordRingsUptoSaid : Prop := wordRingsUptoRow.holds Try.pinned (OpenSpec.upto wordRingsSpec)

/-- 'hauberklaw36.WalkOf', WHERE WHAT IT READS IS OF BULK AT MOST 1048576: true; the input reads as it did. -/
def walkOfUptoRow : OpenClaim := { program := "ytgkaempkapnfcaa", sum := "990274b412534a50ad7f3d032532db1e61bd26140bbac7003a3f9443e03d0c61", func := "hauberk/hauberklaw36.WalkOf", spec := "walkOf", apart := false, narrowed := true }
def WalkOfUptoSaid : Prop := walkOfUptoRow.holds Try.pinned (OpenSpec.upto walkOfSpec)

/-- 'hauberklaw01.WordMasks', WHERE WHAT IT READS IS OF BULK AT MOST 1048576: true; the input reads as it did. -/
def wordMasksUptoRow : OpenClaim := { program := "ytgkaempkapnfcaa", sum := "990274b412534a50ad7f3d032532db1e61bd26140bbac7003a3f9443e03d0c61", func := "hauberk/hauberklaw01.WordMasks", spec := "wordMasks", apart := false, narrowed := true }
def WordMasksUptoSaid : Prop := wordMasksUptoRow.holds Try.pinned (OpenSpec.upto wordMasksSpec)

/-- 'hauberklaw01.WordBack', WHERE WHAT IT READS IS OF BULK AT MOST 1048576: true; the input reads as it did. -/
def wordBackUptoRow : OpenClaim := { program := "ytgkaempkapnfcaa", sum := "990274b412534a50ad7f3d032532db1e61bd26140bbac7003a3f9443e03d0c61", func := "hauberk/hauberklaw01.WordBack", spec := "wordBack", apart := false, narrowed := true }
def WordBackUptoSaid : Prop := wordBackUptoRow.holds Try.pinned (OpenSpec.upto wordBackSpec)

/-- 'hauberklaw36.WalkJoins', WHERE WHAT IT READS IS OF BULK AT MOST 1048576: true; the input reads as it did. -/
def walkJoinsUptoRow : OpenClaim := { program := "ytgkaempkapnfcaa", sum := "990274b412534a50ad7f3d032532db1e61bd26140bbac7003a3f9443e03d0c61", func := "hauberk/hauberklaw36.WalkJoins", spec := "walkJoins", apart := false, narrowed := true }
def WalkJoinsUptoSaid : Prop := walkJoinsUptoRow.holds Try.pinned (OpenSpec.upto walkJoinsSpec)

/-- 'hauberklaw36.WalkGroup', WHERE WHAT IT READS IS OF BULK AT MOST 1048576: true; the input reads as it did. -/
def walkGroupUptoRow : OpenClaim := { program := "ytgkaempkapnfcaa", sum := "990274b412534a50ad7f3d032532db1e61bd26140bbac7003a3f9443e03d0c61", func := "hauberk/hauberklaw36.WalkGroup", spec := "walkGroup", apart := false, narrowed := true }
def WalkGroupUptoSaid : Prop := walkGroupUptoRow.holds Try.pinned (OpenSpec.upto walkGroupSpec)

/-- 'hauberklaw36.WalkSeen', WHERE WHAT IT READS IS OF BULK AT MOST 1048576: true; the input reads as it did. -/
def walkSeenUptoRow : OpenClaim := { program := "ytgkaempkapnfcaa", sum := "990274b412534a50ad7f3d032532db1e61bd26140bbac7003a3f9443e03d0c61", func := "hauberk/hauberklaw36.WalkSeen", spec := "walkSeen", apart := false, narrowed := true }
def WalkSeenUptoSaid : Prop := walkSeenUptoRow.holds Try.pinned (OpenSpec.upto walkSeenSpec)

end Rows
end Go.Proofs.Ytgkaempkapnfcaa
