/- Parts of a proof. No condition but those that each theorem names. -/
import Derived.WalkKit
import Derived.OpenShut
import Derived.Below
import Derived.Lib.Hide
import Derived.Laws.OwnMore
import Derived.Deep.QuietTactic
import Derived.Deep.AppendLies
import Derived.ProofKit
import Derived.SizedLaws
import Derived.Test.YthkobddggoojlaaProg
import Derived.Handy
import Derived.Deep.RegionHeld3
import Derived.BigQuiet
import Derived.Maps.AppendAt
import Derived.Maps.RangeWalk
import Derived.Maps.OwnSet
import Derived.StillTailTactics
import Derived.Laws.CopyOwn
import Derived.Lib.BufferWrite
import Derived.OrdersHeld
import Derived.RegionTactic
import Derived.Deep.DeepCutAuto
import Derived.RangeFuncNested
import Derived.RangeFuncBound
import Derived.RangeFuncCalls
import Derived.RangeFuncLeaves
import Derived.OwnWalkIn
import Derived.TacticsInMore
import Derived.LoopNIn
import Derived.LoopIn
import Derived.Shelf.Abstract
import Derived.Shelf.RegionOpen
import Derived.OrdersIn
import Derived.TacticsIn
import Derived.Sort.CutIn
import Derived.Test.YthkobddggoojlaaTeG0e0
import Derived.Test.YthkobddggoojlaaTeG0e1
import Derived.Test.YthkobddggoojlaaTeG0e2
import Derived.Test.YthkobddggoojlaaTeG1e6
import Derived.Test.YthkobddggoojlaaTeG0e13
import Derived.Test.YthkobddggoojlaaTeG1e16
import Derived.Test.YthkobddggoojlaaTeG1e15
import Derived.Test.YthkobddggoojlaaTeG1e19
import Derived.Test.YthkobddggoojlaaTeG1e17
import Derived.Test.YthkobddggoojlaaTeG1e20
import Derived.Test.YthkobddggoojlaaTeG3e24
import Derived.Test.YthkobddggoojlaaTeTiO
namespace Go.Proofs.Ythkobddggoojlaa
open Go.RowKit
set_option linter.unusedVariables false
theorem td_fine {p : Ir} (he : irErr p = 0) {s : List Bool} (hs : TdIn (tdStr p.blocks) s) (h : p.fine) : (tdIr p s).fine := may_fine h (td_err he hs) rfl rfl rfl rfl
def FewPost (w : World) (e : Ending) (w' : World) : Prop := (∃ b : Bool, e = .returned (.bool b)) ∧ Below w.heap.size w w'
set_option maxRecDepth 100000 in
set_option maxHeartbeats 4000000 in
theorem law23_few (p : Ir) (av bv : Value) (w : World) (hI : IrRep w w.heap.size p av bv) :
    Calls Try.prog 6 #[irVal p av bv] w (FewPost w) := by
  obtain ⟨BA, bc, rfl, hbc⟩ := hI.2.form
  unfold irVal
  have HX := Lib.hid (heap_alloc_new w (.cells #[.int .i64 p.temps, av, .slice BA p.blocks.length bc, .int .i64 p.inp, .int .i64 p.out] 25))
  have HB1 := Lib.hid (bnew w (.cells #[.int .i64 p.temps, av, .slice BA p.blocks.length bc, .int .i64 p.inp, .int .i64 p.out] 25))
  clear hI
  go_enter Try.func6, Try.ntmps6
  go_wp2_with fail
  all_goals
    go_ret
    exact (show FewPost w _ _ from ⟨⟨_, rfl⟩, HB1.out⟩)
def ex23 : Ir := ⟨1, [], [⟨[], ⟨1, 0, 1, 0⟩⟩, ⟨[], ⟨1, 0, 2, 0⟩⟩, ⟨[⟨1, 0, 0, 0, 0, 0⟩], ⟨3, 0, 0, 0⟩⟩], 0, 0⟩
theorem ex23_err : irErr ex23 = 0 := by decide
theorem ex23_fine : ex23.fine := fine_noarr ex23_err rfl
theorem ex23_str : tdStr ex23.blocks = [⟨[], ⟨1, 0, 2, 0⟩⟩, ⟨[], ⟨1, 0, 2, 0⟩⟩, ⟨[⟨1, 0, 0, 0, 0, 0⟩], ⟨3, 0, 0, 0⟩⟩] := by kernel_rfl
theorem ex23_in : TdIn (tdStr ex23.blocks) [true, false, true] := by
  rw [ex23_str]
  have hr2 : TdReach [⟨[], ⟨1, 0, 2, 0⟩⟩, ⟨[], ⟨1, 0, 2, 0⟩⟩, ⟨[⟨1, 0, 0, 0, 0, 0⟩], ⟨3, 0, 0, 0⟩⟩] 2 := TdReach.step 0 2 TdReach.zero (by decide)
  refine tdIn_of rfl rfl (fun i hi x hx => ?_) (fun k hk => ?_)
  · match i, hi, hx with
    | 0, _, hx =>
      have : x = 2 := by simpa [tdTg, tdOne] using hx
      rw [this]; rfl
    | 1, hi, _ => cases hi
    | 2, _, hx => simp [tdTg] at hx
    | i + 3, hi, _ => simp at hi
  · match k, hk with
    | 0, _ => exact TdReach.zero
    | 1, hk => cases hk
    | 2, _ => exact hr2
    | k + 3, hk => simp at hk
theorem ex23_td : tdIr ex23 [true, false, true] = ⟨1, [], [⟨[⟨1, 0, 0, 0, 0, 0⟩], ⟨3, 0, 0, 0⟩⟩], 0, 0⟩ := by kernel_rfl
theorem live_three (w : World) :
    IrRep (((w.alloc (.cells #[.int .i64 1, .int .i64 0, .int .i64 0, .int .i64 0, .int .i64 0, .int .i64 0] 46)).alloc (.cells #[.slice none 0 0, .int .i64 1, .int .i64 0, .int .i64 1, .int .i64 0, .slice none 0 0, .int .i64 1, .int .i64 0, .int .i64 2, .int .i64 0, .slice (some ⟨w.heap.size, 0, none⟩) 1 1, .int .i64 3, .int .i64 0, .int .i64 0, .int .i64 0] 40)).alloc (.cells #[.int .i64 1, .slice none 0 0, .slice (some ⟨w.heap.size + 1, 0, none⟩) 3 3, .int .i64 0, .int .i64 0] 25))
      (((w.alloc (.cells #[.int .i64 1, .int .i64 0, .int .i64 0, .int .i64 0, .int .i64 0, .int .i64 0] 46)).alloc (.cells #[.slice none 0 0, .int .i64 1, .int .i64 0, .int .i64 1, .int .i64 0, .slice none 0 0, .int .i64 1, .int .i64 0, .int .i64 2, .int .i64 0, .slice (some ⟨w.heap.size, 0, none⟩) 1 1, .int .i64 3, .int .i64 0, .int .i64 0, .int .i64 0] 40)).alloc (.cells #[.int .i64 1, .slice none 0 0, .slice (some ⟨w.heap.size + 1, 0, none⟩) 3 3, .int .i64 0, .int .i64 0] 25)).heap.size
      ex23 (.slice none 0 0) (.slice (some ⟨w.heap.size + 1, 0, none⟩) 3 3) := by
  have h1 := alloc_size w (.cells #[.int .i64 1, .int .i64 0, .int .i64 0, .int .i64 0, .int .i64 0, .int .i64 0] 46) rfl
  refine ⟨SlRep.nil_ _ _, ?_⟩
  have hA := alloc_old (alloc_old (alloc_last w _ rfl (.cells #[.int .i64 1, .int .i64 0, .int .i64 0, .int .i64 0, .int .i64 0, .int .i64 0] 46)) (.cells #[.slice none 0 0, .int .i64 1, .int .i64 0, .int .i64 1, .int .i64 0, .slice none 0 0, .int .i64 1, .int .i64 0, .int .i64 2, .int .i64 0, .slice (some ⟨w.heap.size, 0, none⟩) 1 1, .int .i64 3, .int .i64 0, .int .i64 0, .int .i64 0] 40)) (.cells #[.int .i64 1, .slice none 0 0, .slice (some ⟨w.heap.size + 1, 0, none⟩) 3 3, .int .i64 0, .int .i64 0] 25)
  have hB := alloc_old (alloc_last _ _ h1 (.cells #[.slice none 0 0, .int .i64 1, .int .i64 0, .int .i64 1, .int .i64 0, .slice none 0 0, .int .i64 1, .int .i64 0, .int .i64 2, .int .i64 0, .slice (some ⟨w.heap.size, 0, none⟩) 1 1, .int .i64 3, .int .i64 0, .int .i64 0, .int .i64 0] 40)) (.cells #[.int .i64 1, .slice none 0 0, .slice (some ⟨w.heap.size + 1, 0, none⟩) 3 3, .int .i64 0, .int .i64 0] 25)
  refine slRep_rows (E := blkEnc) ex23.blocks (fun b => (if b.ops.length = 0 then .slice none 0 0 else .slice (some ⟨w.heap.size, 0, none⟩) 1 1) :: trmCells b.term) (fun x => rfl) hB (lt_of_blk hB) (fun x hx => ?_)
  rcases List.mem_cons.1 hx with rfl | hx
  · exact ⟨_, rfl, SlRep.nil_ _ _⟩
  rcases List.mem_cons.1 hx with rfl | hx
  · exact ⟨_, rfl, SlRep.nil_ _ _⟩
  obtain rfl := List.mem_singleton.1 hx
  exact ⟨_, rfl, slRep_rows (E := opEnc) [⟨1, 0, 0, 0, 0, 0⟩] opCells (fun _ => rfl) hA (lt_of_blk hA) (fun _ _ => rfl)⟩
set_option maxRecDepth 100000 in
set_option maxHeartbeats 4000000 in
theorem law23_lives (w : World) : Calls Try.prog 7 #[] w fun e w' => e = .returned (.bool true) ∧ Below w.heap.size w w' := by
  have HCP := Lib.hid (fun av bv W h => tidy_Tidy ex23 av bv ex23_fine ex23_err _ ex23_in W h)
  rw [ex23_td] at HCP
  unfold irVal PassPost at HCP
  unfold ex23 at HCP
  have hI := live_three w
  unfold ex23 at hI
  have hBl : Below w.heap.size w (((w.alloc (.cells #[.int .i64 1, .int .i64 0, .int .i64 0, .int .i64 0, .int .i64 0, .int .i64 0] 46)).alloc (.cells #[.slice none 0 0, .int .i64 1, .int .i64 0, .int .i64 1, .int .i64 0, .slice none 0 0, .int .i64 1, .int .i64 0, .int .i64 2, .int .i64 0, .slice (some ⟨w.heap.size, 0, none⟩) 1 1, .int .i64 3, .int .i64 0, .int .i64 0, .int .i64 0] 40)).alloc (.cells #[.int .i64 1, .slice none 0 0, .slice (some ⟨w.heap.size + 1, 0, none⟩) 3 3, .int .i64 0, .int .i64 0] 25)) := bal (bal (bnew w _) _) _
  go_enter Try.func7, Try.ntmps7
  go_wp2_with fail
  generalize ((w.alloc (.cells #[.int .i64 1, .int .i64 0, .int .i64 0, .int .i64 0, .int .i64 0, .int .i64 0] 46)).alloc (.cells #[.slice none 0 0, .int .i64 1, .int .i64 0, .int .i64 1, .int .i64 0, .slice none 0 0, .int .i64 1, .int .i64 0, .int .i64 2, .int .i64 0, .slice (some ⟨w.heap.size, 0, none⟩) 1 1, .int .i64 3, .int .i64 0, .int .i64 0, .int .i64 0] 40)).alloc (.cells #[.int .i64 1, .slice none 0 0, .slice (some ⟨w.heap.size + 1, 0, none⟩) 3 3, .int .i64 0, .int .i64 0] 25) = w3 at *
  have HBL := Lib.hid hBl
  refine (HCP.out _ _ _ hI).mono ?_
  rintro e w4 ⟨A, ac, C, bc, rfl, ⟨_, hIb⟩, hb4⟩
  obtain ⟨b, off, rfl, hb0, OA, oc, hops, hoc, y0, y1, y2, y3, y4⟩ := blk_known hIb 0 _ rfl
  simp only [Nat.zero_mul, Nat.add_zero, List.length_cons, List.length_nil] at y0 y1 y2 y3 y4
  have HB4 := Lib.hid (bch HBL.out hb4)
  have bx := fun (q : Addr) (hq : q.block < w4.heap.size) => (bnew w4 (.cells #[.int .i64 1, .slice A 0 ac, .slice (some ⟨b, off, none⟩) 1 bc, .int .i64 0, .int .i64 0] 25)).cell hq
  rw [← bx ⟨b, _, none⟩ hb0] at y0 y1 y2 y3 y4
  clear hI hBl hIb hb4 bx hops
  go_wp2_with fail
  go_ret
  exact ⟨rfl, bal HB4.out _⟩
end Go.Proofs.Ythkobddggoojlaa
