/- Contracts of package image's front and Build, of hauberkref06's words and Build. -/
import Derived.Test.YtgipelnjbpkfjaaImage
import Derived.Test.YtgipelnjbpkfjaaShelf
import Derived.Deep.RegionHeld3
namespace Go.Proofs.Ytgipelnjbpkfjaa
open Go.RowKit

def ints (l : List Int) : List Value := l.map (Value.int .i64)
theorem image_front (h : Hd) (w : World) : Calls Try.prog 41 #[hdVal h] w fun e w' => e = .returned (.agg (ints (frontWords h)).toArray) ∧ Below w.heap.size w w' := by
  obtain ⟨rs, hd, i, o, r, md⟩ := h
  unfold hdVal
  simp only
  go_enter Try.func41, Try.ntmps41
  go_wp2_with fail
  refine wp_loop_rounds 17 ?_
  rw [rounds_succ]
  go_wp2_with (rw [rounds_succ])
  go_region_held3 (fun w' => w'.cell? ⟨w.heap.size, 0, none⟩ = some (.int .i64 rs)) (go_keep) (fail)
  go_wp2_with fail
  go_region_held3 (fun w' => w'.cell? ⟨w.heap.size, 2, none⟩ = some (.int .i64 i) ∧ w'.cell? ⟨w.heap.size, 3, none⟩ = some (.int .i64 o) ∧ w'.cell? ⟨w.heap.size, 4, none⟩ = some (.int .i64 r) ∧ w'.cell? ⟨w.heap.size, 5, none⟩ = some (.int .i64 md)) (go_keep) (fail)
  go_wp2_with fail
  have hh := fun A B C => (Go.heap_alloc_old ((w.alloc A).alloc B) C (r := w.heap.size + 1) (by simp)).trans (Go.heap_alloc2_new w A B)
  try simp only [Exit.inBlock, Exit.then]
  refine bodyPost_ret (results_cell_row rfl _ _ (w.heap.size + 1) _ _ (0, 0) _ rfl (hh _ _ _) Try.underlying90 rfl (by kernel_rfl)) rfl ?_
  refine ⟨rfl, ?_⟩
  exact ((((Below.refl _ _).alloc (Nat.le_refl _) _).alloc (by simp) _).alloc (by simp; omega) _).drew.drew
end Go.Proofs.Ytgipelnjbpkfjaa
