/- Parts of a proof. No condition but those that each theorem names. -/
import Derived.WalkKit
import Derived.OpenShut
import Derived.Below
import Derived.Lib.Hide
import Derived.Laws.OwnMore
import Derived.Deep.QuietTactic
import Derived.Deep.AppendLies
import Derived.ProofKit
import Derived.SizedLaws
import Derived.Test.YtfadeipdepamlaaProg
import Derived.Handy
import Derived.Deep.RegionHeld3
import Derived.BigQuiet
import Derived.Maps.AppendAt
import Derived.Maps.RangeWalk
import Derived.Maps.OwnSet
import Derived.StillTailTactics
import Derived.Laws.CopyOwn
import Derived.Lib.BufferWrite
import Derived.OrdersHeld
import Derived.RegionTactic
import Derived.Deep.DeepCutAuto
import Derived.Test.YtfadeipdepamlaaSeG0e0
import Derived.Test.YtfadeipdepamlaaSeG0e1
import Derived.Test.YtfadeipdepamlaaSeG0e2
import Derived.Test.YtfadeipdepamlaaSeFoldM
import Derived.Test.YtfadeipdepamlaaSeG1e13
import Derived.Test.YtfadeipdepamlaaSeFoldA
import Derived.Test.YtfadeipdepamlaaSeFoldH
import Derived.Test.YtfadeipdepamlaaSeG2e14
namespace Go.Proofs.Ytfadeipdepamlaa
open Go.RowKit
set_option linter.unusedVariables false
def ex19 : Ir := ⟨3, [], [⟨[⟨1, 0, 0, 0, 0, 2⟩, ⟨1, 1, 0, 0, 0, 3⟩, ⟨5, 2, 0, 1, 0, 0⟩], ⟨3, 0, 0, 0⟩⟩], 0, 0⟩
theorem ex19_err : irErr ex19 = 0 := by decide
theorem ex19_fine : ex19.fine := fine_noarr ex19_err rfl
theorem ex19_cp : fdIr ex19 = ⟨3, [], [⟨[⟨1, 0, 0, 0, 0, 2⟩, ⟨1, 1, 0, 0, 0, 3⟩, ⟨1, 2, 0, 0, 0, 6⟩], ⟨3, 0, 0, 0⟩⟩], 0, 0⟩ := by kernel_rfl
set_option maxRecDepth 100000 in
set_option maxHeartbeats 4000000 in
theorem law19_lives (w : World) : Calls Try.prog 12 #[] w fun e w' => e = .returned (.bool true) ∧ Below w.heap.size w w' := by
  have HCP := Lib.hid (fun av bv W h => fold_Fold ex19 av bv ex19_fine ex19_err W h)
  rw [ex19_cp] at HCP
  unfold irVal PassPost ex19 at HCP
  have hI : IrRep (((w.alloc (.cells #[.int .i64 1, .int .i64 0, .int .i64 0, .int .i64 0, .int .i64 0, .int .i64 2, .int .i64 1, .int .i64 1, .int .i64 0, .int .i64 0, .int .i64 0, .int .i64 3, .int .i64 5, .int .i64 2, .int .i64 0, .int .i64 1, .int .i64 0, .int .i64 0] 41)).alloc (.cells #[.slice (some ⟨w.heap.size, 0, none⟩) 3 3, .int .i64 3, .int .i64 0, .int .i64 0, .int .i64 0] 39)).alloc (.cells #[.int .i64 3, .slice none 0 0, .slice (some ⟨w.heap.size + 1, 0, none⟩) 1 1, .int .i64 0, .int .i64 0] 25)) (((w.alloc (.cells #[.int .i64 1, .int .i64 0, .int .i64 0, .int .i64 0, .int .i64 0, .int .i64 2, .int .i64 1, .int .i64 1, .int .i64 0, .int .i64 0, .int .i64 0, .int .i64 3, .int .i64 5, .int .i64 2, .int .i64 0, .int .i64 1, .int .i64 0, .int .i64 0] 41)).alloc (.cells #[.slice (some ⟨w.heap.size, 0, none⟩) 3 3, .int .i64 3, .int .i64 0, .int .i64 0, .int .i64 0] 39)).alloc (.cells #[.int .i64 3, .slice none 0 0, .slice (some ⟨w.heap.size + 1, 0, none⟩) 1 1, .int .i64 0, .int .i64 0] 25)).heap.size ex19 (.slice none 0 0) (.slice (some ⟨w.heap.size + 1, 0, none⟩) 1 1) := live_one w [⟨1, 0, 0, 0, 0, 2⟩, ⟨1, 1, 0, 0, 0, 3⟩, ⟨5, 2, 0, 1, 0, 0⟩] ⟨3, 0, 0, 0⟩ 3
  have hBl : Below w.heap.size w (((w.alloc (.cells #[.int .i64 1, .int .i64 0, .int .i64 0, .int .i64 0, .int .i64 0, .int .i64 2, .int .i64 1, .int .i64 1, .int .i64 0, .int .i64 0, .int .i64 0, .int .i64 3, .int .i64 5, .int .i64 2, .int .i64 0, .int .i64 1, .int .i64 0, .int .i64 0] 41)).alloc (.cells #[.slice (some ⟨w.heap.size, 0, none⟩) 3 3, .int .i64 3, .int .i64 0, .int .i64 0, .int .i64 0] 39)).alloc (.cells #[.int .i64 3, .slice none 0 0, .slice (some ⟨w.heap.size + 1, 0, none⟩) 1 1, .int .i64 0, .int .i64 0] 25)) := bal (bal (bnew w _) _) _
  unfold ex19 at hI
  go_enter Try.func12, Try.ntmps12
  go_wp2_with fail
  generalize ((w.alloc (.cells #[.int .i64 1, .int .i64 0, .int .i64 0, .int .i64 0, .int .i64 0, .int .i64 2, .int .i64 1, .int .i64 1, .int .i64 0, .int .i64 0, .int .i64 0, .int .i64 3, .int .i64 5, .int .i64 2, .int .i64 0, .int .i64 1, .int .i64 0, .int .i64 0] 41)).alloc (.cells #[.slice (some ⟨w.heap.size, 0, none⟩) 3 3, .int .i64 3, .int .i64 0, .int .i64 0, .int .i64 0] 39)).alloc (.cells #[.int .i64 3, .slice none 0 0, .slice (some ⟨w.heap.size + 1, 0, none⟩) 1 1, .int .i64 0, .int .i64 0] 25) = w3 at *
  have HBL := Lib.hid hBl
  refine (HCP.out _ _ _ hI).mono ?_
  rintro e w4 ⟨A, ac, C, bc, rfl, ⟨_, hIb⟩, hb4⟩
  obtain ⟨b, off, rfl, hb0, OA, oc, hops, hoc, y0, _, _, _, _⟩ := blk_known hIb 0 _ rfl
  obtain ⟨b2, off2, rfl, hb2, z0, z1, z2, z3, z4, z5⟩ := op_known hops 2 _ rfl
  simp only [Nat.zero_mul, Nat.add_zero, List.length_cons, List.length_nil] at y0 z0 z1 z2 z3 z4 z5
  have HB4 := Lib.hid (bch HBL.out hb4)
  have bx := fun (q : Addr) (hq : q.block < w4.heap.size) => (bnew w4 (.cells #[.int .i64 3, .slice A 0 ac, .slice (some ⟨b, off, none⟩) 1 bc, .int .i64 0, .int .i64 0] 25)).cell hq
  rw [← bx _ hb0] at y0
  rw [← bx _ hb2] at z0 z1 z2 z3 z4 z5
  clear hI hBl hIb hb4 bx hops
  go_wp2_with fail
  go_ret
  exact ⟨rfl, bal HB4.out _⟩
end Go.Proofs.Ytfadeipdepamlaa
