/- Parts of a proof. No condition but those that each theorem names. -/
import Derived.WalkKit
import Derived.OpenShut
import Derived.Below
import Derived.Lib.Hide
import Derived.Laws.OwnMore
import Derived.Deep.QuietTactic
import Derived.Deep.AppendLies
import Derived.ProofKit
import Derived.SizedLaws
import Derived.Test.YtfadeipdepamlaaProg
import Derived.Handy
import Derived.Deep.RegionHeld3
import Derived.BigQuiet
import Derived.Maps.AppendAt
import Derived.StillTailTactics
import Derived.Laws.CopyOwn
import Derived.Lib.BufferWrite
import Derived.Test.YtfadeipdepamlaaSdG0e0
namespace Go.Proofs.Ytfadeipdepamlaa
open Go.RowKit
set_option linter.unusedVariables false
theorem alloc_last (w : World) (n : Nat) (h : w.heap.size = n) (o : Obj) : (w.alloc o).heap[n]? = some o := by subst h; exact heap_alloc_new w o
theorem alloc_old {w : World} {n : Nat} {x : Obj} (h : w.heap[n]? = some x) (o : Obj) : (w.alloc o).heap[n]? = some x := ((bnew w o).block n (lt_of_blk h)).trans h
theorem alloc_size (w : World) (o : Obj) {n : Nat} (h : w.heap.size = n) : (w.alloc o).heap.size = n + 1 := by subst h; simp
theorem alloc4 (w : World) (a b c d : Obj) :
    ((((w.alloc a).alloc b).alloc c).alloc d).heap[w.heap.size]? = some a ∧ ((((w.alloc a).alloc b).alloc c).alloc d).heap[w.heap.size + 1]? = some b ∧ ((((w.alloc a).alloc b).alloc c).alloc d).heap[w.heap.size + 1 + 1]? = some c ∧ ((((w.alloc a).alloc b).alloc c).alloc d).heap[w.heap.size + 1 + 1 + 1]? = some d ∧
    ((((w.alloc a).alloc b).alloc c).alloc d).heap.size = w.heap.size + 1 + 1 + 1 + 1 ∧ Below w.heap.size w ((((w.alloc a).alloc b).alloc c).alloc d) := by
  have h1 := alloc_size w a rfl
  have h2 := alloc_size _ b h1
  have h3 := alloc_size _ c h2
  have h4 := alloc_size _ d h3
  exact ⟨alloc_old (alloc_old (alloc_old (alloc_last _ _ rfl a) b) c) d, alloc_old (alloc_old (alloc_last _ _ h1 b) c) d, alloc_old (alloc_last _ _ h2 c) d, alloc_last _ _ h3 d, h4, bal (bal (bal (bnew w a) b) c) d⟩
end Go.Proofs.Ytfadeipdepamlaa
