/- The contract of hauberklaw36.lives: it returns true; what lay below the heap's old size is as it was. -/
import Derived.Test.YtgkaempkapnfcaaWalkOf
namespace Go.Proofs.Ytgkaempkapnfcaa
open Go.RowKit

def evEx : Ev := ⟨0, 2, 0, 3⟩
theorem evSl_one {w : World} {g : Nat} {t : TypeId} (h : w.heap[g]? = some (.cells #[.int .i64 0, .int .i64 2, .int .i64 0, .int .i64 3] t (0, 0))) (hg : g < w.heap.size) : EvSl w w.heap.size (some ⟨g, 0, none⟩) [evEx] := by
  intro _
  refine ⟨g, 0, rfl, hg, fun k hk => ?_⟩
  obtain rfl : k = 0 := by simp at hk; exact hk
  exact ⟨(cell_of_blk h 0).1, (cell_of_blk h 1).1, (cell_of_blk h 2).1, (cell_of_blk h 3).1⟩
theorem evSl_two {w : World} {g : Nat} {t : TypeId} (h : w.heap[g]? = some (.cells #[.int .i64 0, .int .i64 2, .int .i64 0, .int .i64 3, .int .i64 0, .int .i64 2, .int .i64 0, .int .i64 3] t (0, 0))) (hg : g < w.heap.size) : EvSl w w.heap.size (some ⟨g, 0, none⟩) [evEx, evEx] := by
  intro _
  refine ⟨g, 0, rfl, hg, fun k hk => ?_⟩
  have : k = 0 ∨ k = 1 := by simp at hk; omega
  rcases this with rfl | rfl
  · exact ⟨(cell_of_blk h 0).1, (cell_of_blk h 1).1, (cell_of_blk h 2).1, (cell_of_blk h 3).1⟩
  · exact ⟨(cell_of_blk h 4).1, (cell_of_blk h 5).1, (cell_of_blk h 6).1, (cell_of_blk h 7).1⟩
theorem wk_one : wkVal (wkOf [evEx]) = .agg #[.int .i64 3, .int .i64 0, .int .i64 1] := by kernel_rfl
theorem wk_two : wkVal (wkOf [evEx, evEx]) = .agg #[.int .i64 3, .int .i64 3, .int .i64 2] := by kernel_rfl
theorem law36_lives (w : World) : Calls Try.prog 52 #[] w fun e w' => e = .returned (.bool true) ∧ Below w.heap.size w w' := by
  go_enter Try.func52, Try.ntmps52
  go_wp2_with fail
  have hv : ((w.alloc (Obj.cells #[Value.int IntKind.i64 0, Value.int IntKind.i64 2, Value.int IntKind.i64 0, Value.int IntKind.i64 3] 55)).alloc (Obj.cells #[Value.int IntKind.i64 0, Value.int IntKind.i64 2, Value.int IntKind.i64 0, Value.int IntKind.i64 3] 55)).heap[w.heap.size]? = some (.cells #[.int .i64 0, .int .i64 2, .int .i64 0, .int .i64 3] 55 (0, 0)) := by
    rw [Below.heap_alloc _ _ _ (by simp)]; exact heap_alloc_new w _
  have hs : ((w.alloc (Obj.cells #[Value.int IntKind.i64 0, Value.int IntKind.i64 2, Value.int IntKind.i64 0, Value.int IntKind.i64 3] 55)).alloc (Obj.cells #[Value.int IntKind.i64 0, Value.int IntKind.i64 2, Value.int IntKind.i64 0, Value.int IntKind.i64 3] 55)).heap[w.heap.size + 1]? = some (.cells #[.int .i64 0, .int .i64 2, .int .i64 0, .int .i64 3] 55 (0, 0)) := by
    have := heap_alloc_new (w.alloc (Obj.cells #[Value.int IntKind.i64 0, Value.int IntKind.i64 2, Value.int IntKind.i64 0, Value.int IntKind.i64 3] 55)) (Obj.cells #[Value.int IntKind.i64 0, Value.int IntKind.i64 2, Value.int IntKind.i64 0, Value.int IntKind.i64 3] 55)
    simpa using this
  have hb : Below w.heap.size w ((w.alloc (Obj.cells #[Value.int IntKind.i64 0, Value.int IntKind.i64 2, Value.int IntKind.i64 0, Value.int IntKind.i64 3] 55)).alloc (Obj.cells #[Value.int IntKind.i64 0, Value.int IntKind.i64 2, Value.int IntKind.i64 0, Value.int IntKind.i64 3] 55)) := ((Below.refl _ _).alloc (Nat.le_refl _) _).alloc (by simp) _
  have hz : ((w.alloc (Obj.cells #[Value.int IntKind.i64 0, Value.int IntKind.i64 2, Value.int IntKind.i64 0, Value.int IntKind.i64 3] 55)).alloc (Obj.cells #[Value.int IntKind.i64 0, Value.int IntKind.i64 2, Value.int IntKind.i64 0, Value.int IntKind.i64 3] 55)).heap.size = w.heap.size + 1 + 1 := by simp
  generalize (w.alloc (Obj.cells #[Value.int IntKind.i64 0, Value.int IntKind.i64 2, Value.int IntKind.i64 0, Value.int IntKind.i64 3] 55)).alloc (Obj.cells #[Value.int IntKind.i64 0, Value.int IntKind.i64 2, Value.int IntKind.i64 0, Value.int IntKind.i64 3] 55) = W2 at *
  refine (walk_Of (some ⟨w.heap.size + 1, 0, none⟩) 1 [evEx] W2 (evSl_one hs (by omega)) (by decide)).mono ?_
  rintro e w3 ⟨rfl, hb3⟩
  rw [wk_one]
  have hv3 := (hb3.block _ (by omega)).trans hv
  have v0 := (cell_of_blk hv3 0).1
  have v1 := (cell_of_blk hv3 1).1
  have v2 := (cell_of_blk hv3 2).1
  have v3 := (cell_of_blk hv3 3).1
  simp only [List.getElem?_toArray, List.getElem?_cons_zero, List.getElem?_cons_succ] at v0 v1 v2 v3
  have hbb : Below w.heap.size w w3 := hb.trans (hb3.mono (by omega))
  have HB := Lib.hid hbb
  clear hv hs hb hz hb3 hv3 hbb
  go_wp2_with fail
  refine (walk_Of (some ⟨w3.heap.size, 0, none⟩) 2 [evEx, evEx] _ (evSl_two (heap_alloc_new _ _) (by simp)) (by decide)).mono ?_
  rintro e w4 ⟨rfl, hb4⟩
  rw [wk_two]
  have HB4 := Lib.hid hb4
  clear v0 v1 v2 v3 hb4
  go_wp2_with fail
  go_ret
  exact ⟨rfl, HB.out.trans (((Below.refl _ _).alloc HB.out.size _).trans (HB4.out.mono (by have := HB.out.size; simp; omega)))⟩
end Go.Proofs.Ytgkaempkapnfcaa
