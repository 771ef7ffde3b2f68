/- The words ahead of an image, by hauberkref06. -/
import Derived.Test.YtgipelnjbpkfjaaImage
namespace Go.Proofs.Ytgipelnjbpkfjaa
open Go.RowKit

theorem ref06_words (h : Hd) (w : World) : Calls Try.prog 46 #[hdVal h] w fun e w' => e = .returned (.string (refFront h 16)) ∧ Below w.heap.size w w' := by
  have hsz := fun k => refFront_size h k
  have hsu := fun k => refFront_succ h k
  generalize hR : refFront h = R at *
  generalize hW : refWord h = W at *
  obtain ⟨rs, hd, i, o, r, md⟩ := h
  unfold hdVal
  simp only
  have HS := Lib.hid hsz
  have HU := Lib.hid hsu
  have HW := Lib.hid hW
  have H0 : R 0 = ByteArray.empty := by rw [← hR]; rfl
  clear hsz hsu hW hR
  go_enter Try.func46, Try.ntmps46
  go_wp2_with fail
  go_loopw [3, 4] (fun s j wr => ∃ k : Nat, k ≤ 16 ∧ j = .int .i64 k ∧ s = .string (R k) ∧ Below w.heap.size w wr ∧ wr.heap[w.heap.size]? = some (.cells #[.int .i64 rs, .int .i64 hd, .int .i64 i, .int .i64 o, .int .i64 r, .int .i64 md] 46)) (fun _ i _ => 16 - (intOf i).toNat)
  case atStart => exact ⟨0, by omega, rfl, by rw [H0]; rfl, (Below.refl _ _).alloc (Nat.le_refl _) _, heap_alloc_new w _⟩
  case round =>
    obtain ⟨k, hk, rfl, rfl, hBw, hbl⟩ := hrel
    have c0 := (cell_of_blk hbl 0).1
    have c1 := (cell_of_blk hbl 1).1
    have c2 := (cell_of_blk hbl 2).1
    have c3 := (cell_of_blk hbl 3).1
    have c4 := (cell_of_blk hbl 4).1
    have c5 := (cell_of_blk hbl 5).1
    simp only [List.getElem?_toArray, List.getElem?_cons_zero, List.getElem?_cons_succ] at c0 c1 c2 c3 c4 c5
    have hl0 : w.heap.size < wr.heap.size := block_lt_of_cell c0
    have HB := Lib.hid hBw
    have HL := Lib.hid hbl
    have hs := HS.out k
    clear hbl hBw
    by_cases h16 : k < 16
    · go_wp2_with (go_at_call 56; refine (ref_Bytes _ _).mono ?_; rintro e w' ⟨rfl, hb⟩)
      all_goals first
        | (exfalso; simp only [hs, wBytes_size] at *; omega)
        | (refine ⟨⟨k + 1, by omega, by simp, congrArg Value.string ?_, bch HB.out hb, (hb.block _ hl0).trans HL.out⟩, by simp [intOf]; omega⟩
           rw [HU.out k, ← HW.out]
           refine congrArg (fun x => R k ++ wBytes x) ?_
           clear c0 c1 c2 c3 c4 c5 hs
           simp only [refWord]
           simp only [beq_iff_eq, beq_eq_false_iff_ne, ne_eq] at *
           first
             | rfl
             | (repeat (first | rw [if_pos (by omega)] | rw [if_neg (by omega)])))
    · go_wp2_with fail
      go_ret
      have : k = 16 := by omega
      subst this
      exact ⟨rfl, HB.out⟩
end Go.Proofs.Ytgipelnjbpkfjaa
