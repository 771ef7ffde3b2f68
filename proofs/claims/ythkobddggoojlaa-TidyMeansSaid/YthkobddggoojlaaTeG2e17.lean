/- Parts of a proof. No condition but those that each theorem names. -/
import Derived.WalkKit
import Derived.OpenShut
import Derived.Below
import Derived.Lib.Hide
import Derived.Laws.OwnMore
import Derived.Deep.QuietTactic
import Derived.Deep.AppendLies
import Derived.ProofKit
import Derived.SizedLaws
import Derived.Test.YthkobddggoojlaaProg
import Derived.Handy
import Derived.Deep.RegionHeld3
import Derived.BigQuiet
import Derived.Maps.AppendAt
import Derived.Maps.RangeWalk
import Derived.Maps.OwnSet
import Derived.StillTailTactics
import Derived.Laws.CopyOwn
import Derived.Lib.BufferWrite
import Derived.OrdersHeld
import Derived.RegionTactic
import Derived.Deep.DeepCutAuto
import Derived.Test.YthkobddggoojlaaTeG0e0
import Derived.Test.YthkobddggoojlaaTeG0e1
import Derived.Test.YthkobddggoojlaaTeG0e2
import Derived.Test.YthkobddggoojlaaTeIrC
import Derived.Test.YthkobddggoojlaaTeG2e5
import Derived.Test.YthkobddggoojlaaTeG1e6
import Derived.Test.YthkobddggoojlaaTeG1e7
import Derived.Test.YthkobddggoojlaaTeG0e13
import Derived.Test.YthkobddggoojlaaTeG1e15
namespace Go.Proofs.Ythkobddggoojlaa
open Go.RowKit
set_option linter.unusedVariables false
set_option maxRecDepth 100000 in
set_option maxHeartbeats 4000000 in
theorem tidy_Tidy_bad (p : Ir) (av bv : Value) (hf : p.fine) (he : irErr p ≠ 0) (w : World) (hI : IrRep w w.heap.size p av bv) :
    Calls Try.prog 8 #[irVal p av bv] w (PassPost irZero (irErr p) w) := by
  have HC := Lib.hid (fun W h => ir_Check p av bv hf W h)
  have HI := Lib.hid hI
  have q : (irErr p != 0) = true := by rw [bne_iff_ne]; exact he
  unfold irVal at *
  generalize irErr p = fe at *
  have hx0 := alloc_last _ _ (alloc_size w (.cells #[.int .i64 p.temps, av, bv, .int .i64 p.inp, .int .i64 p.out] 25) rfl) (.cells #[.int .i64 0, .slice none 0 0, .slice none 0 0, .int .i64 0, .int .i64 0] 25)
  have hb1 := bal (bnew w (.cells #[.int .i64 p.temps, av, bv, .int .i64 p.inp, .int .i64 p.out] 25)) (.cells #[.int .i64 0, .slice none 0 0, .slice none 0 0, .int .i64 0, .int .i64 0] 25)
  clear hI he hf
  go_enter Try.func8, Try.ntmps8
  go_wp2_with fail
  refine (HC.out _ (HI.out.next hb1)).mono ?_
  rintro e w2 ⟨rfl, hb2⟩
  have hx := (hb2.block _ (lt_of_blk hx0)).trans hx0
  have HB := Lib.hid (bch hb1 hb2)
  obtain ⟨r0, s0⟩ := cell_of_blk hx 0
  obtain ⟨r1, s1⟩ := cell_of_blk hx 1
  obtain ⟨r2, s2⟩ := cell_of_blk hx 2
  obtain ⟨r3, s3⟩ := cell_of_blk hx 3
  obtain ⟨r4, s4⟩ := cell_of_blk hx 4
  clear hx0 hb1 hb2
  go_wp2_with fail
  have hr7 := blk_set (blk_set (blk_set (blk_set (blk_set hx 0 (.int .i64 0)) 1 (.slice none 0 0)) 2 (.slice none 0 0)) 3 (.int .i64 0)) 4 (.int .i64 0)
  have hB7 := ((((HB.out.setCell (p := ⟨w.heap.size + 1, 0, none⟩) (by show w.heap.size ≤ w.heap.size + 1; omega) (.int .i64 0)).setCell (p := ⟨w.heap.size + 1, 1, none⟩) (by show w.heap.size ≤ w.heap.size + 1; omega) (.slice none 0 0)).setCell (p := ⟨w.heap.size + 1, 2, none⟩) (by show w.heap.size ≤ w.heap.size + 1; omega) (.slice none 0 0)).setCell (p := ⟨w.heap.size + 1, 3, none⟩) (by show w.heap.size ≤ w.heap.size + 1; omega) (.int .i64 0)).setCell (p := ⟨w.heap.size + 1, 4, none⟩) (by show w.heap.size ≤ w.heap.size + 1; omega) (.int .i64 0)
  generalize ((((w2.setCell ⟨w.heap.size + 1, 0, none⟩ (.int .i64 0)).setCell ⟨w.heap.size + 1, 1, none⟩ (.slice none 0 0)).setCell ⟨w.heap.size + 1, 2, none⟩ (.slice none 0 0)).setCell ⟨w.heap.size + 1, 3, none⟩ (.int .i64 0)).setCell ⟨w.heap.size + 1, 4, none⟩ (.int .i64 0) = w7 at *
  have k0 : w7.cell? ⟨w.heap.size + 1, 0, none⟩ = some (.int .i64 0) := (cell_of_blk hr7 0).1
  have k1 : w7.cell? ⟨w.heap.size + 1, 1, none⟩ = some (.slice none 0 0) := (cell_of_blk hr7 1).1
  have k2 : w7.cell? ⟨w.heap.size + 1, 2, none⟩ = some (.slice none 0 0) := (cell_of_blk hr7 2).1
  have k3 : w7.cell? ⟨w.heap.size + 1, 3, none⟩ = some (.int .i64 0) := (cell_of_blk hr7 3).1
  have k4 : w7.cell? ⟨w.heap.size + 1, 4, none⟩ = some (.int .i64 0) := (cell_of_blk hr7 4).1
  clear hr7 hx r0 r1 r2 r3 r4 s0 s1 s2 s3 s4
  refine bodyPost_ret (by simp [results, Try.results8, go_sem, k0, k1, k2, k3, k4]; try rfl) rfl ?_
  exact ⟨none, 0, none, 0, rfl, ⟨SlRep.nil_ _ _, SlRep.nil_ _ _⟩, hB7⟩
end Go.Proofs.Ythkobddggoojlaa
