/-
  No cell of these rows narrows 'for every input' (looked for: loops, veiled, ifaces, maps, wideKeys, modest, calm, conditions, laid).
  DERIVED. THE GIVEN ROWS OF THIS SEAT. 11 by the template 'for every input the law returns true; each argument reads behind the call as it read before'; 0 by the template 'total and deterministic' (their statements: YtgipelnjbpkfjaaTotals.lean).
  GIVEN WITH THE SEED: the statements are not yours to turn. If you find one false, say at which input.
  Laid BY PROGRAM, IN A SANDBOX (cutbox-rows.mjs): the forced cells as the released guide's own fill.sh prints them over the translation 0b6e6390d4a092b3… (all of the seat's roots in one cut). By AI agents, Wed Nov 11 2026. No macro, syntax, notation, axiom, sorry.
-/
import Derived.Test.YtgipelnjbpkfjaaChecked
import GoSem.Claim
import GoSem.ClaimJoined
import GoSem.ClaimMapViews
import Derived.JoinedTies
import Derived.KernelRfl
namespace Go.Proofs.Ytgipelnjbpkfjaa
/- THE CELL 'sum', in the pinned program and in every row, IS THE sha256 OF THE DUMP (.gsa) THAT YtgipelnjbpkfjaaProg.lean LOADS. Nothing in Lean hashes anything: it is a label: what it is worth is what the hold of that sum in a sandbox is worth. -/
noncomputable def Try.pinned : Pinned := { name := "ytgipelnjbpkfjaa", sum := "0b6e6390d4a092b33dd4a5a4fadd7f2c67a3cdda33969465eaf61d63838f91ef", checked := Try.checked }
namespace Rows
def none {H : Type} : Left H := { results := [], args := [] }

/-- 'hauberklaw05.MemmapRegions': WHATEVER THE INPUT: true; the input reads as it did. -/
def memmapRegionsSpec : ChangeSpec := { name := "memmapRegions", fn := fun _ => fun
  | [d1, d2] => { results := [.lit (.bool true)], args := [d1, d2] }
  | _ => none }
def memmapRegionsRow : OpenClaim := { program := "ytgipelnjbpkfjaa", sum := "0b6e6390d4a092b33dd4a5a4fadd7f2c67a3cdda33969465eaf61d63838f91ef", func := "hauberk/hauberklaw05.MemmapRegions", spec := "memmapRegions", apart := false }
def MemmapRegionsSaid : Prop := memmapRegionsRow.holds Try.pinned (OpenSpec.ofChange memmapRegionsSpec)

/-- ITS FALSE NEIGHBOUR: 'it returns false'. Refute it at one input. -/
def memmapRegionsWrong : ChangeSpec := { name := "memmapRegions", fn := fun _ => fun
  | [d1, d2] => { results := [.lit (.bool false)], args := [d1, d2] }
  | _ => none }
def MemmapRegionsWrongFalsely : Prop := memmapRegionsRow.holds Try.pinned (OpenSpec.ofChange memmapRegionsWrong)

/-- 'hauberklaw05.MemmapFinds': WHATEVER THE INPUT: true; the input reads as it did. -/
def memmapFindsSpec : ChangeSpec := { name := "memmapFinds", fn := fun _ => fun
  | [d1, d2, d3, d4] => { results := [.lit (.bool true)], args := [d1, d2, d3, d4] }
  | _ => none }
def memmapFindsRow : OpenClaim := { program := "ytgipelnjbpkfjaa", sum := "0b6e6390d4a092b33dd4a5a4fadd7f2c67a3cdda33969465eaf61d63838f91ef", func := "hauberk/hauberklaw05.MemmapFinds", spec := "memmapFinds", apart := false }
def MemmapFindsSaid : Prop := memmapFindsRow.holds Try.pinned (OpenSpec.ofChange memmapFindsSpec)

/-- ITS FALSE NEIGHBOUR: 'it returns false'. Refute it at one input. -/
def memmapFindsWrong : ChangeSpec := { name := "memmapFinds", fn := fun _ => fun
  | [d1, d2, d3, d4] => { results := [.lit (.bool false)], args := [d1, d2, d3, d4] }
  | _ => none }
def MemmapFindsWrongFalsely : Prop := memmapFindsRow.holds Try.pinned (OpenSpec.ofChange memmapFindsWrong)

/-- 'hauberklaw05.MemmapFar': WHATEVER THE INPUT: true; the input reads as it did. -/
def memmapFarSpec : ChangeSpec := { name := "memmapFar", fn := fun _ => fun
  | [d1, d2, d3, d4] => { results := [.lit (.bool true)], args := [d1, d2, d3, d4] }
  | _ => none }
def memmapFarRow : OpenClaim := { program := "ytgipelnjbpkfjaa", sum := "0b6e6390d4a092b33dd4a5a4fadd7f2c67a3cdda33969465eaf61d63838f91ef", func := "hauberk/hauberklaw05.MemmapFar", spec := "memmapFar", apart := false }
def MemmapFarSaid : Prop := memmapFarRow.holds Try.pinned (OpenSpec.ofChange memmapFarSpec)

/-- ITS FALSE NEIGHBOUR: 'it returns false'. Refute it at one input. -/
def memmapFarWrong : ChangeSpec := { name := "memmapFar", fn := fun _ => fun
  | [d1, d2, d3, d4] => { results := [.lit (.bool false)], args := [d1, d2, d3, d4] }
  | _ => none }
def MemmapFarWrongFalsely : Prop := memmapFarRow.holds Try.pinned (OpenSpec.ofChange memmapFarWrong)

/-- 'hauberklaw05.MemmapWord': WHATEVER THE INPUT: true; the input reads as it did. -/
def memmapWordSpec : ChangeSpec := { name := "memmapWord", fn := fun _ => fun
  | [d1, d2, d3, d4] => { results := [.lit (.bool true)], args := [d1, d2, d3, d4] }
  | _ => none }
def memmapWordRow : OpenClaim := { program := "ytgipelnjbpkfjaa", sum := "0b6e6390d4a092b33dd4a5a4fadd7f2c67a3cdda33969465eaf61d63838f91ef", func := "hauberk/hauberklaw05.MemmapWord", spec := "memmapWord", apart := false }
def MemmapWordSaid : Prop := memmapWordRow.holds Try.pinned (OpenSpec.ofChange memmapWordSpec)

/-- ITS FALSE NEIGHBOUR: 'it returns false'. Refute it at one input. -/
def memmapWordWrong : ChangeSpec := { name := "memmapWord", fn := fun _ => fun
  | [d1, d2, d3, d4] => { results := [.lit (.bool false)], args := [d1, d2, d3, d4] }
  | _ => none }
def MemmapWordWrongFalsely : Prop := memmapWordRow.holds Try.pinned (OpenSpec.ofChange memmapWordWrong)

/-- 'hauberklaw06.ImageBuilds': WHATEVER THE INPUT: true; the input reads as it did. -/
def imageBuildsSpec : ChangeSpec := { name := "imageBuilds", fn := fun _ => fun
  | [d1, d2] => { results := [.lit (.bool true)], args := [d1, d2] }
  | _ => none }
def imageBuildsRow : OpenClaim := { program := "ytgipelnjbpkfjaa", sum := "0b6e6390d4a092b33dd4a5a4fadd7f2c67a3cdda33969465eaf61d63838f91ef", func := "hauberk/hauberklaw06.ImageBuilds", spec := "imageBuilds", inPlace := ["internal/abi.NoEscape"], apart := false }
def ImageBuildsSaid : Prop := imageBuildsRow.holds Try.pinned (OpenSpec.ofChange imageBuildsSpec)

/-- ITS FALSE NEIGHBOUR: 'it returns false'. Refute it at one input. -/
def imageBuildsWrong : ChangeSpec := { name := "imageBuilds", fn := fun _ => fun
  | [d1, d2] => { results := [.lit (.bool false)], args := [d1, d2] }
  | _ => none }
def ImageBuildsWrongFalsely : Prop := imageBuildsRow.holds Try.pinned (OpenSpec.ofChange imageBuildsWrong)

/-- 'hauberklaw06.ImageParses': WHATEVER THE INPUT: true; the input reads as it did. -/
def imageParsesSpec : ChangeSpec := { name := "imageParses", fn := fun _ => fun
  | [d] => { results := [.lit (.bool true)], args := [d] }
  | _ => none }
def imageParsesRow : OpenClaim := { program := "ytgipelnjbpkfjaa", sum := "0b6e6390d4a092b33dd4a5a4fadd7f2c67a3cdda33969465eaf61d63838f91ef", func := "hauberk/hauberklaw06.ImageParses", spec := "imageParses", inPlace := ["internal/abi.NoEscape"], apart := false }
def ImageParsesSaid : Prop := imageParsesRow.holds Try.pinned (OpenSpec.ofChange imageParsesSpec)

/-- ITS FALSE NEIGHBOUR: 'it returns false'. Refute it at one input. -/
def imageParsesWrong : ChangeSpec := { name := "imageParses", fn := fun _ => fun
  | [d] => { results := [.lit (.bool false)], args := [d] }
  | _ => none }
def ImageParsesWrongFalsely : Prop := imageParsesRow.holds Try.pinned (OpenSpec.ofChange imageParsesWrong)

/-- 'hauberklaw06.ImageBack': WHATEVER THE INPUT: true; the input reads as it did. -/
def imageBackSpec : ChangeSpec := { name := "imageBack", fn := fun _ => fun
  | [d1, d2, d3, d4] => { results := [.lit (.bool true)], args := [d1, d2, d3, d4] }
  | _ => none }
def imageBackRow : OpenClaim := { program := "ytgipelnjbpkfjaa", sum := "0b6e6390d4a092b33dd4a5a4fadd7f2c67a3cdda33969465eaf61d63838f91ef", func := "hauberk/hauberklaw06.ImageBack", spec := "imageBack", inPlace := ["internal/abi.NoEscape"], apart := false }
def ImageBackSaid : Prop := imageBackRow.holds Try.pinned (OpenSpec.ofChange imageBackSpec)

/-- ITS FALSE NEIGHBOUR: 'it returns false'. Refute it at one input. -/
def imageBackWrong : ChangeSpec := { name := "imageBack", fn := fun _ => fun
  | [d1, d2, d3, d4] => { results := [.lit (.bool false)], args := [d1, d2, d3, d4] }
  | _ => none }
def ImageBackWrongFalsely : Prop := imageBackRow.holds Try.pinned (OpenSpec.ofChange imageBackWrong)

/-- 'hauberklaw07.MemoryPlays': WHATEVER THE INPUT: true; the input reads as it did. -/
def memoryPlaysSpec : ChangeSpec := { name := "memoryPlays", fn := fun _ => fun
  | [d1, d2] => { results := [.lit (.bool true)], args := [d1, d2] }
  | _ => none }
def memoryPlaysRow : OpenClaim := { program := "ytgipelnjbpkfjaa", sum := "0b6e6390d4a092b33dd4a5a4fadd7f2c67a3cdda33969465eaf61d63838f91ef", func := "hauberk/hauberklaw07.MemoryPlays", spec := "memoryPlays", apart := false }
def MemoryPlaysSaid : Prop := memoryPlaysRow.holds Try.pinned (OpenSpec.ofChange memoryPlaysSpec)

/-- ITS FALSE NEIGHBOUR: 'it returns false'. Refute it at one input. -/
def memoryPlaysWrong : ChangeSpec := { name := "memoryPlays", fn := fun _ => fun
  | [d1, d2] => { results := [.lit (.bool false)], args := [d1, d2] }
  | _ => none }
def MemoryPlaysWrongFalsely : Prop := memoryPlaysRow.holds Try.pinned (OpenSpec.ofChange memoryPlaysWrong)

/-- 'hauberklaw07.MemoryKeeps': WHATEVER THE INPUT: true; the input reads as it did. -/
def memoryKeepsSpec : ChangeSpec := { name := "memoryKeeps", fn := fun _ => fun
  | [d1, d2, d3, d4] => { results := [.lit (.bool true)], args := [d1, d2, d3, d4] }
  | _ => none }
def memoryKeepsRow : OpenClaim := { program := "ytgipelnjbpkfjaa", sum := "0b6e6390d4a092b33dd4a5a4fadd7f2c67a3cdda33969465eaf61d63838f91ef", func := "hauberk/hauberklaw07.MemoryKeeps", spec := "memoryKeeps", apart := false }
def MemoryKeepsSaid : Prop := memoryKeepsRow.holds Try.pinned (OpenSpec.ofChange memoryKeepsSpec)

/-- ITS FALSE NEIGHBOUR: 'it returns false'. Refute it at one input. -/
def memoryKeepsWrong : ChangeSpec := { name := "memoryKeeps", fn := fun _ => fun
  | [d1, d2, d3, d4] => { results := [.lit (.bool false)], args := [d1, d2, d3, d4] }
  | _ => none }
def MemoryKeepsWrongFalsely : Prop := memoryKeepsRow.holds Try.pinned (OpenSpec.ofChange memoryKeepsWrong)

/-- 'hauberklaw07.MemoryRegions': WHATEVER THE INPUT: true; the input reads as it did. -/
def memoryRegionsSpec : ChangeSpec := { name := "memoryRegions", fn := fun _ => fun
  | [d1, d2, d3] => { results := [.lit (.bool true)], args := [d1, d2, d3] }
  | _ => none }
def memoryRegionsRow : OpenClaim := { program := "ytgipelnjbpkfjaa", sum := "0b6e6390d4a092b33dd4a5a4fadd7f2c67a3cdda33969465eaf61d63838f91ef", func := "hauberk/hauberklaw07.MemoryRegions", spec := "memoryRegions", apart := false }
def MemoryRegionsSaid : Prop := memoryRegionsRow.holds Try.pinned (OpenSpec.ofChange memoryRegionsSpec)

/-- ITS FALSE NEIGHBOUR: 'it returns false'. Refute it at one input. -/
def memoryRegionsWrong : ChangeSpec := { name := "memoryRegions", fn := fun _ => fun
  | [d1, d2, d3] => { results := [.lit (.bool false)], args := [d1, d2, d3] }
  | _ => none }
def MemoryRegionsWrongFalsely : Prop := memoryRegionsRow.holds Try.pinned (OpenSpec.ofChange memoryRegionsWrong)

/-- 'hauberklaw07.MemoryFlash': WHATEVER THE INPUT: true; the input reads as it did. -/
def memoryFlashSpec : ChangeSpec := { name := "memoryFlash", fn := fun _ => fun
  | [d1, d2, d3] => { results := [.lit (.bool true)], args := [d1, d2, d3] }
  | _ => none }
def memoryFlashRow : OpenClaim := { program := "ytgipelnjbpkfjaa", sum := "0b6e6390d4a092b33dd4a5a4fadd7f2c67a3cdda33969465eaf61d63838f91ef", func := "hauberk/hauberklaw07.MemoryFlash", spec := "memoryFlash", apart := false }
def MemoryFlashSaid : Prop := memoryFlashRow.holds Try.pinned (OpenSpec.ofChange memoryFlashSpec)

/-- ITS FALSE NEIGHBOUR: 'it returns false'. Refute it at one input. -/
def memoryFlashWrong : ChangeSpec := { name := "memoryFlash", fn := fun _ => fun
  | [d1, d2, d3] => { results := [.lit (.bool false)], args := [d1, d2, d3] }
  | _ => none }
def MemoryFlashWrongFalsely : Prop := memoryFlashRow.holds Try.pinned (OpenSpec.ofChange memoryFlashWrong)

/- THE SECOND FORM. 'bulk': how many values and letters a reading holds, each counted each time it is reached (what is shared counts as often as it is met; a slice's spare places count too). A statement '..UptoSaid' is the law's where the arguments, and the package variables that the reading takes, are together of bulk at most 1048576: NARROWER than '..Said'. Prove '..Said' where nothing that the law and all that it calls make is longer than what came in: it says more and counts as full. Else prove '..UptoSaid'. A law counts once. -/
mutual
def uptoBulk {H : Type} : DataW H → Nat
  | .lit (.string bytes) => bytes.length + 1
  | .lit _ => 1
  | .nil => 1
  | .ptr d => uptoBulk d + 1
  | .slice elems spare => uptoBulkAll elems + uptoBulkAll spare + 1
  | .agg parts => uptoBulkAll parts + 1
  | .iface _ d => uptoBulk d + 1
  | .map entries => uptoBulkEntries entries + 1
  | .held _ => 1
def uptoBulkAll {H : Type} : List (DataW H) → Nat
  | [] => 0
  | d :: r => uptoBulk d + uptoBulkAll r
def uptoBulkEntries {H : Type} : List (Lit × DataW H) → Nat
  | [] => 0
  | x :: r => uptoBulkEntry x + uptoBulkEntries r
def uptoBulkEntry {H : Type} : Lit × DataW H → Nat
  | (.string bytes, d) => bytes.length + uptoBulk d + 1
  | (_, d) => uptoBulk d + 1
 end
def uptoSmall : (H : Type) → List (DataW H) → Bool := fun _ ds => decide (uptoBulkAll ds ≤ 1048576)
def OpenSpec.upto (s : _root_.Go.ChangeSpec) : _root_.Go.OpenSpec := { _root_.Go.OpenSpec.ofChange s with cond := some uptoSmall }

/-- 'hauberklaw05.MemmapRegions', WHERE WHAT IT READS IS OF BULK AT MOST 1048576: true; the input reads as it did. -/
def memmapRegionsUptoRow : OpenClaim := { program := "ytgipelnjbpkfjaa", sum := "0b6e6390d4a092b33dd4a5a4fadd7f2c67a3cdda33969465eaf61d63838f91ef", func := "hauberk/hauberklaw05.MemmapRegions", spec := "memmapRegions", apart := false, narrowed := true }
def MemmapRegionsUptoSaid : Prop := memmapRegionsUptoRow.holds Try.pinned (OpenSpec.upto memmapRegionsSpec)

/-- 'hauberklaw05.MemmapFinds', WHERE WHAT IT READS IS OF BULK AT MOST 1048576: true; the input reads as it did. -/
def memmapFindsUptoRow : OpenClaim := { program := "ytgipelnjbpkfjaa", sum := "0b6e6390d4a092b33dd4a5a4fadd7f2c67a3cdda33969465eaf61d63838f91ef", func := "hauberk/hauberklaw05.MemmapFinds", spec := "memmapFinds", apart := false, narrowed := true }
def MemmapFindsUptoSaid : Prop := memmapFindsUptoRow.holds Try.pinned (OpenSpec.upto memmapFindsSpec)

/-- 'hauberklaw05.MemmapFar', WHERE WHAT IT READS IS OF BULK AT MOST 1048576: true; the input reads as it did. -/
def memmapFarUptoRow : OpenClaim := { program := "ytgipelnjbpkfjaa", sum := "0b6e6390d4a092b33dd4a5a4fadd7f2c67a3cdda33969465eaf61d63838f91ef", func := "hauberk/hauberklaw05.MemmapFar", spec := "memmapFar", apart := false, narrowed := true }
def MemmapFarUptoSaid : Prop := memmapFarUptoRow.holds Try.pinned (OpenSpec.upto memmapFarSpec)

/-- 'hauberklaw05.MemmapWord', WHERE WHAT IT READS IS OF BULK AT MOST 1048576: true; the input reads as it did. -/
def memmapWordUptoRow : OpenClaim := { program := "ytgipelnjbpkfjaa", sum := "0b6e6390d4a092b33dd4a5a4fadd7f2c67a3cdda33969465eaf61d63838f91ef", func := "hauberk/hauberklaw05.MemmapWord", spec := "memmapWord", apart := false, narrowed := true }
def MemmapWordUptoSaid : Prop := memmapWordUptoRow.holds Try.pinned (OpenSpec.upto memmapWordSpec)

/-- 'hauberklaw06.ImageBuilds', WHERE WHAT IT READS IS OF BULK AT MOST 1048576: true; the input reads as it did. -/
def imageBuildsUptoRow : OpenClaim := { program := "ytgipelnjbpkfjaa", sum := "0b6e6390d4a092b33dd4a5a4fadd7f2c67a3cdda33969465eaf61d63838f91ef", func := "hauberk/hauberklaw06.ImageBuilds", spec := "imageBuilds", inPlace := ["internal/abi.NoEscape"], apart := false, narrowed := true }
def ImageBuildsUptoSaid : Prop := imageBuildsUptoRow.holds Try.pinned (OpenSpec.upto imageBuildsSpec)

/-- 'hauberklaw06.ImageParses', WHERE WHAT IT READS IS OF BULK AT MOST 1048576: true; the input reads as it did. -/
def imageParsesUptoRow : OpenClaim := { program := "ytgipelnjbpkfjaa", sum := "0b6e6390d4a092b33dd4a5a4fadd7f2c67a3cdda33969465eaf61d63838f91ef", func := "hauberk/hauberklaw06.ImageParses", spec := "imageParses", inPlace := ["internal/abi.NoEscape"], apart := false, narrowed := true }
def ImageParsesUptoSaid : Prop := imageParsesUptoRow.holds Try.pinned (OpenSpec.upto imageParsesSpec)

/-- 'hauberklaw06.ImageBack', WHERE WHAT IT READS IS OF BULK AT MOST 1048576: true; the input reads as it did. -/
def imageBackUptoRow : OpenClaim := { program := "ytgipelnjbpkfjaa", sum := "0b6e6390d4a092b33dd4a5a4fadd7f2c67a3cdda33969465eaf61d63838f91ef", func := "hauberk/hauberklaw06.ImageBack", spec := "imageBack", inPlace := ["internal/abi.NoEscape"], apart := false, narrowed := true }
def ImageBackUptoSaid : Prop := imageBackUptoRow.holds Try.pinned (OpenSpec.upto imageBackSpec)

/-- 'hauberklaw07.MemoryPlays', WHERE WHAT IT READS IS OF BULK AT MOST 1048576: true; the input reads as it did. -/
def memoryPlaysUptoRow : OpenClaim := { program := "ytgipelnjbpkfjaa", sum := "0b6e6390d4a092b33dd4a5a4fadd7f2c67a3cdda33969465eaf61d63838f91ef", func := "hauberk/hauberklaw07.MemoryPlays", spec := "memoryPlays", apart := false, narrowed := true }
def MemoryPlaysUptoSaid : Prop := memoryPlaysUptoRow.holds Try.pinned (OpenSpec.upto memoryPlaysSpec)

/-- 'hauberklaw07.MemoryKeeps', WHERE WHAT IT READS IS OF BULK AT MOST 1048576: true; the input reads as it did. -/
def memoryKeepsUptoRow : OpenClaim := { program := "ytgipelnjbpkfjaa", sum := "0b6e6390d4a092b33dd4a5a4fadd7f2c67a3cdda33969465eaf61d63838f91ef", func := "hauberk/hauberklaw07.MemoryKeeps", spec := "memoryKeeps", apart := false, narrowed := true }
def MemoryKeepsUptoSaid : Prop := memoryKeepsUptoRow.holds Try.pinned (OpenSpec.upto memoryKeepsSpec)

/-- 'hauberklaw07.MemoryRegions', WHERE WHAT IT READS IS OF BULK AT MOST 1048576: true; the input reads as it did. -/
def memoryRegionsUptoRow : OpenClaim := { program := "ytgipelnjbpkfjaa", sum := "0b6e6390d4a092b33dd4a5a4fadd7f2c67a3cdda33969465eaf61d63838f91ef", func := "hauberk/hauberklaw07.MemoryRegions", spec := "memoryRegions", apart := false, narrowed := true }
def MemoryRegionsUptoSaid : Prop := memoryRegionsUptoRow.holds Try.pinned (OpenSpec.upto memoryRegionsSpec)

/-- 'hauberklaw07.MemoryFlash', WHERE WHAT IT READS IS OF BULK AT MOST 1048576: true; the input reads as it did. -/
def memoryFlashUptoRow : OpenClaim := { program := "ytgipelnjbpkfjaa", sum := "0b6e6390d4a092b33dd4a5a4fadd7f2c67a3cdda33969465eaf61d63838f91ef", func := "hauberk/hauberklaw07.MemoryFlash", spec := "memoryFlash", apart := false, narrowed := true }
def MemoryFlashUptoSaid : Prop := memoryFlashUptoRow.holds Try.pinned (OpenSpec.upto memoryFlashSpec)

end Rows
end Go.Proofs.Ytgipelnjbpkfjaa
