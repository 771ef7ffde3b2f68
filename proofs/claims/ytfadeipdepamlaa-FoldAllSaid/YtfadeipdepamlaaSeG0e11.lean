/- Parts of a proof. No condition but those that each theorem names. -/
import Derived.WalkKit
import Derived.OpenShut
import Derived.Below
import Derived.Lib.Hide
import Derived.Laws.OwnMore
import Derived.Deep.QuietTactic
import Derived.Deep.AppendLies
import Derived.ProofKit
import Derived.SizedLaws
import Derived.Test.YtfadeipdepamlaaProg
import Derived.Handy
import Derived.Deep.RegionHeld3
import Derived.BigQuiet
import Derived.Maps.AppendAt
import Derived.StillTailTactics
import Derived.Laws.CopyOwn
import Derived.Lib.BufferWrite
import Derived.Test.YtfadeipdepamlaaSeG0e0
namespace Go.Proofs.Ytfadeipdepamlaa
open Go.RowKit
set_option linter.unusedVariables false
theorem alloc_last (w : World) (n : Nat) (h : w.heap.size = n) (o : Obj) : (w.alloc o).heap[n]? = some o := by subst h; exact heap_alloc_new w o
theorem alloc_old {w : World} {n : Nat} {x : Obj} (h : w.heap[n]? = some x) (o : Obj) : (w.alloc o).heap[n]? = some x := ((bnew w o).block n (lt_of_blk h)).trans h
theorem alloc_size (w : World) (o : Obj) {n : Nat} (h : w.heap.size = n) : (w.alloc o).heap.size = n + 1 := by subst h; simp
end Go.Proofs.Ytfadeipdepamlaa
