/- Parts of a proof. No condition but those that each theorem names. -/
import Derived.WalkKit
import Derived.OpenShut
import Derived.Below
import Derived.Lib.Hide
import Derived.Laws.OwnMore
import Derived.Deep.QuietTactic
import Derived.Deep.AppendLies
import Derived.ProofKit
import Derived.SizedLaws
import Derived.Test.YthkobddggoojlaaProg
import Derived.Handy
import Derived.Deep.RegionHeld3
import Derived.BigQuiet
import Derived.Maps.AppendAt
import Derived.StillTailTactics
import Derived.Laws.CopyOwn
import Derived.Lib.BufferWrite
import Derived.Test.YthkobddggoojlaaTeG0e0
import Derived.Test.YthkobddggoojlaaTeG0e2
import Derived.Test.YthkobddggoojlaaTeG0e10
namespace Go.Proofs.Ythkobddggoojlaa
open Go.RowKit
set_option linter.unusedVariables false
theorem alloc_last (w : World) (n : Nat) (h : w.heap.size = n) (o : Obj) : (w.alloc o).heap[n]? = some o := by subst h; exact heap_alloc_new w o
theorem alloc_old {w : World} {n : Nat} {x : Obj} (h : w.heap[n]? = some x) (o : Obj) : (w.alloc o).heap[n]? = some x := ((bnew w o).block n (lt_of_blk h)).trans h
theorem alloc_size (w : World) (o : Obj) {n : Nat} (h : w.heap.size = n) : (w.alloc o).heap.size = n + 1 := by subst h; simp
theorem irRun_size {p : Ir} (he : irErr p = 0) {i : ByteArray} (h : (i.size : Int) ≠ p.inp) (b : Int) : irRun p i b = (bE, 2) := by unfold irRun; rw [if_neg (by simpa using he), if_pos (Or.inl h)]
theorem irRun_go {p : Ir} (he : irErr p = 0) {i : ByteArray} (h : (i.size : Int) = p.inp) {b : Int} (h0 : 0 ≤ b) (h1 : b ≤ 67108864) : irRun p i b = runP p b.toNat 0 0 (startP p i) := by
  unfold irRun
  rw [if_neg (by simpa using he), if_neg (fun h2 => h2.elim (fun h3 => h3 h) (fun h3 => h3 ⟨h0, h1⟩))]
end Go.Proofs.Ythkobddggoojlaa
