/- Parts of a proof. No condition but those that each theorem names. -/
import Derived.WalkKit
import Derived.OpenShut
import Derived.Below
import Derived.Lib.Hide
import Derived.Laws.OwnMore
import Derived.Deep.QuietTactic
import Derived.Deep.AppendLies
import Derived.ProofKit
import Derived.SizedLaws
import Derived.Test.YtfadeipdepamlaaProg
import Derived.Handy
import Derived.Deep.RegionHeld3
import Derived.BigQuiet
import Derived.Maps.AppendAt
import Derived.Maps.RangeWalk
import Derived.Maps.OwnSet
import Derived.StillTailTactics
import Derived.Laws.CopyOwn
import Derived.Lib.BufferWrite
import Derived.OrdersHeld
import Derived.RegionTactic
import Derived.Deep.DeepCutAuto
import Derived.Test.YtfadeipdepamlaaSdG0e0
import Derived.Test.YtfadeipdepamlaaSdG0e1
import Derived.Test.YtfadeipdepamlaaSdIr
import Derived.Test.YtfadeipdepamlaaSdG1e2
import Derived.Test.YtfadeipdepamlaaSdG1e4
import Derived.Test.YtfadeipdepamlaaSdG2e5
import Derived.Test.YtfadeipdepamlaaSdG2e6
import Derived.Test.YtfadeipdepamlaaSdG3e14
import Derived.Test.YtfadeipdepamlaaSdG2e13
import Derived.Test.YtfadeipdepamlaaSdFoldM
import Derived.Test.YtfadeipdepamlaaSdG4e14
import Derived.Test.YtfadeipdepamlaaSdFoldA
import Derived.Test.YtfadeipdepamlaaSdFoldG
import Derived.Test.YtfadeipdepamlaaSdFoldH
namespace Go.Proofs.Ytfadeipdepamlaa
open Go.RowKit
set_option linter.unusedVariables false
def FewPost19 (w : World) (e : Ending) (w' : World) : Prop := (∃ b : Bool, e = .returned (.bool b)) ∧ Below w.heap.size w w'
set_option maxRecDepth 100000 in
set_option maxHeartbeats 4000000 in
theorem law19_few (p : Ir) (av bv : Value) (hf : p.fine) (w : World) (hI : IrRep w w.heap.size p av bv) :
    Calls Try.prog 11 #[irVal p av bv] w (FewPost19 w) := by
  obtain ⟨_, _, _, _, hnb, _, hfb⟩ := hf
  obtain ⟨BA, bc, rfl, hbc⟩ := hI.2.form
  have HB := Lib.hid hI.2
  unfold irVal
  have HX := Lib.hid (heap_alloc_new w (.cells #[.int .i64 p.temps, av, .slice BA p.blocks.length bc, .int .i64 p.inp, .int .i64 p.out] 25))
  have HB1 := Lib.hid (bnew w (.cells #[.int .i64 p.temps, av, .slice BA p.blocks.length bc, .int .i64 p.inp, .int .i64 p.out] 25))
  have HLN : Hid (∀ k, k < p.blocks.length → (p.blocks.getD k blkNone).ops.length ≤ 4398046511104) := Lib.hid (fun k hk => (hfb _ (getD_memI p.blocks k blkNone hk)).1)
  clear hI hfb
  go_enter Try.func11, Try.ntmps11
  go_wp2_with fail
  generalize w.alloc (.cells #[.int .i64 p.temps, av, .slice BA p.blocks.length bc, .int .i64 p.inp, .int .i64 p.out] 25) = w1 at *
  have x2 := (cell_of_blk HX.out 2).1
  have hx2 : w1.cell? ⟨w.heap.size, 2, none⟩ = some (.slice BA p.blocks.length bc) := x2
  clear x2
  go_loop [3, 4] (fun vn vi => ∃ (k : Nat) (n : Int), k ≤ p.blocks.length ∧ 0 ≤ n ∧ n ≤ 8001 ∧ vn = .int .i64 n ∧ vi = .int .i64 k) (fun _ vi => p.blocks.length - (intOf vi).toNat)
  case atStart => exact ⟨0, 0, Nat.zero_le _, by omega, by omega, rfl, rfl⟩
  case round =>
    obtain ⟨k, n, hk, hn0, hn1, rfl, rfl⟩ := hrel
    by_cases hlt : k < p.blocks.length
    · by_cases hn : n ≤ 3000
      · obtain ⟨b, off, rfl, hb0, OA, oc, hops, hoc, x0, x1, x2, x3, x4⟩ := blk_at (HB.out.below HB1.out (Nat.le_refl _)) k hlt
        have hl := HLN.out k hlt
        generalize (p.blocks.getD k blkNone).ops.length = m at *
        have k0 : (0 : Int) ≤ (k : Int) := by omega
        have k1 : (k : Int) < (p.blocks.length : Int) := by omega
        clear hops x1 x2 x3 x4
        go_wp2_with fail
        all_goals
          go_round
          case rel => exact ⟨k + 1, _, by omega, by omega, by omega, rfl, by go_num⟩
          case measure => simp [intOf]; omega
      · have hn2 : 3000 < n := by omega
        clear hn
        go_wp2_with fail
        go_ret
        exact (show FewPost19 w _ _ from ⟨⟨_, rfl⟩, HB1.out⟩)
    · obtain rfl : k = p.blocks.length := by omega
      go_wp2_with fail
      all_goals
        go_ret
        exact (show FewPost19 w _ _ from ⟨⟨_, rfl⟩, HB1.out⟩)
def ex19 : Ir := ⟨3, [], [⟨[⟨1, 0, 0, 0, 0, 2⟩, ⟨1, 1, 0, 0, 0, 3⟩, ⟨5, 2, 0, 1, 0, 0⟩], ⟨3, 0, 0, 0⟩⟩], 0, 0⟩
theorem ex19_err : irErr ex19 = 0 := by decide
theorem ex19_fine : ex19.fine := fine_noarr ex19_err rfl
theorem ex19_cp : fdIr ex19 = ⟨3, [], [⟨[⟨1, 0, 0, 0, 0, 2⟩, ⟨1, 1, 0, 0, 0, 3⟩, ⟨1, 2, 0, 0, 0, 6⟩], ⟨3, 0, 0, 0⟩⟩], 0, 0⟩ := by kernel_rfl
set_option maxRecDepth 100000 in
set_option maxHeartbeats 4000000 in
theorem law19_lives (w : World) : Calls Try.prog 12 #[] w fun e w' => e = .returned (.bool true) ∧ Below w.heap.size w w' := by
  have HCP := Lib.hid (fun av bv W h => fold_Fold ex19 av bv ex19_fine ex19_err W h)
  rw [ex19_cp] at HCP
  unfold irVal PassPost ex19 at HCP
  have hI : IrRep (((w.alloc (.cells #[.int .i64 1, .int .i64 0, .int .i64 0, .int .i64 0, .int .i64 0, .int .i64 2, .int .i64 1, .int .i64 1, .int .i64 0, .int .i64 0, .int .i64 0, .int .i64 3, .int .i64 5, .int .i64 2, .int .i64 0, .int .i64 1, .int .i64 0, .int .i64 0] 41)).alloc (.cells #[.slice (some ⟨w.heap.size, 0, none⟩) 3 3, .int .i64 3, .int .i64 0, .int .i64 0, .int .i64 0] 39)).alloc (.cells #[.int .i64 3, .slice none 0 0, .slice (some ⟨w.heap.size + 1, 0, none⟩) 1 1, .int .i64 0, .int .i64 0] 25)) (((w.alloc (.cells #[.int .i64 1, .int .i64 0, .int .i64 0, .int .i64 0, .int .i64 0, .int .i64 2, .int .i64 1, .int .i64 1, .int .i64 0, .int .i64 0, .int .i64 0, .int .i64 3, .int .i64 5, .int .i64 2, .int .i64 0, .int .i64 1, .int .i64 0, .int .i64 0] 41)).alloc (.cells #[.slice (some ⟨w.heap.size, 0, none⟩) 3 3, .int .i64 3, .int .i64 0, .int .i64 0, .int .i64 0] 39)).alloc (.cells #[.int .i64 3, .slice none 0 0, .slice (some ⟨w.heap.size + 1, 0, none⟩) 1 1, .int .i64 0, .int .i64 0] 25)).heap.size ex19 (.slice none 0 0) (.slice (some ⟨w.heap.size + 1, 0, none⟩) 1 1) := live_one w [⟨1, 0, 0, 0, 0, 2⟩, ⟨1, 1, 0, 0, 0, 3⟩, ⟨5, 2, 0, 1, 0, 0⟩] ⟨3, 0, 0, 0⟩ 3
  have hBl : Below w.heap.size w (((w.alloc (.cells #[.int .i64 1, .int .i64 0, .int .i64 0, .int .i64 0, .int .i64 0, .int .i64 2, .int .i64 1, .int .i64 1, .int .i64 0, .int .i64 0, .int .i64 0, .int .i64 3, .int .i64 5, .int .i64 2, .int .i64 0, .int .i64 1, .int .i64 0, .int .i64 0] 41)).alloc (.cells #[.slice (some ⟨w.heap.size, 0, none⟩) 3 3, .int .i64 3, .int .i64 0, .int .i64 0, .int .i64 0] 39)).alloc (.cells #[.int .i64 3, .slice none 0 0, .slice (some ⟨w.heap.size + 1, 0, none⟩) 1 1, .int .i64 0, .int .i64 0] 25)) := bal (bal (bnew w _) _) _
  unfold ex19 at hI
  go_enter Try.func12, Try.ntmps12
  go_wp2_with fail
  generalize ((w.alloc (.cells #[.int .i64 1, .int .i64 0, .int .i64 0, .int .i64 0, .int .i64 0, .int .i64 2, .int .i64 1, .int .i64 1, .int .i64 0, .int .i64 0, .int .i64 0, .int .i64 3, .int .i64 5, .int .i64 2, .int .i64 0, .int .i64 1, .int .i64 0, .int .i64 0] 41)).alloc (.cells #[.slice (some ⟨w.heap.size, 0, none⟩) 3 3, .int .i64 3, .int .i64 0, .int .i64 0, .int .i64 0] 39)).alloc (.cells #[.int .i64 3, .slice none 0 0, .slice (some ⟨w.heap.size + 1, 0, none⟩) 1 1, .int .i64 0, .int .i64 0] 25) = w3 at *
  have HBL := Lib.hid hBl
  refine (HCP.out _ _ _ hI).mono ?_
  rintro e w4 ⟨A, ac, C, bc, rfl, ⟨_, hIb⟩, hb4⟩
  obtain ⟨b, off, rfl, hb0, OA, oc, hops, hoc, y0, _, _, _, _⟩ := blk_known hIb 0 _ rfl
  obtain ⟨b2, off2, rfl, hb2, z0, z1, z2, z3, z4, z5⟩ := op_known hops 2 _ rfl
  simp only [Nat.zero_mul, Nat.add_zero, List.length_cons, List.length_nil] at y0 z0 z1 z2 z3 z4 z5
  have HB4 := Lib.hid (bch HBL.out hb4)
  have bx := fun (q : Addr) (hq : q.block < w4.heap.size) => (bnew w4 (.cells #[.int .i64 3, .slice A 0 ac, .slice (some ⟨b, off, none⟩) 1 bc, .int .i64 0, .int .i64 0] 25)).cell hq
  rw [← bx _ hb0] at y0
  rw [← bx _ hb2] at z0 z1 z2 z3 z4 z5
  clear hI hBl hIb hb4 bx hops
  go_wp2_with fail
  go_ret
  exact ⟨rfl, bal HB4.out _⟩
end Go.Proofs.Ytfadeipdepamlaa
