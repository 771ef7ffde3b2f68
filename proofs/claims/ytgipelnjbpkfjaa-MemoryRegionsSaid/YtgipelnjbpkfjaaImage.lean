/- Contracts of package image's place and check, and of place of hauberkref06. No condition. -/
import Derived.Test.YtgipelnjbpkfjaaWb
import Derived.Test.YtgipelnjbpkfjaaRegions
namespace Go.Proofs.Ytgipelnjbpkfjaa
open Go.RowKit

theorem image_place (a n : Int) (w : World) : Calls Try.prog 53 #[.int .i64 a, .int .i64 n] w fun e w' => e = .returned (.bool (imgPlace a n)) ∧ w = w' := by
  have b1 := and_1
  by_cases h1 : 64 ≤ a
  · by_cases h2 : a < n
    · go_enter Try.func53, Try.ntmps53
      go_wp2
      go_ret
      exact ⟨ret_bool (by simp [imgPlace, h1, h2]), rfl⟩
    · go_enter Try.func53, Try.ntmps53
      go_wp2
      go_ret
      exact ⟨ret_bool (by simp only [imgPlace, decide_eq_false (show ¬ a < n by omega), Bool.false_and, Bool.and_false]), rfl⟩
  · go_enter Try.func53, Try.ntmps53
    go_wp2
    go_ret
    exact ⟨ret_bool (by simp only [imgPlace, decide_eq_false (show ¬ 64 ≤ a by omega), Bool.false_and]), rfl⟩
theorem ref06_place (a n : Int) (w : World) : Calls Try.prog 45 #[.int .i64 a, .int .i64 n] w fun e w' => e = .returned (.bool (imgPlace a n)) ∧ w = w' := by
  by_cases h1 : 64 ≤ a
  · by_cases h2 : a < n
    · go_enter Try.func45, Try.ntmps45
      go_wp2
      go_ret
      exact ⟨ret_bool (by simp [imgPlace, h1, h2]), rfl⟩
    · go_enter Try.func45, Try.ntmps45
      go_wp2
      go_ret
      exact ⟨ret_bool (by simp only [imgPlace, decide_eq_false (show ¬ a < n by omega), Bool.false_and, Bool.and_false]), rfl⟩
  · go_enter Try.func45, Try.ntmps45
    go_wp2
    go_ret
    exact ⟨ret_bool (by simp only [imgPlace, decide_eq_false (show ¬ 64 ≤ a by omega), Bool.false_and]), rfl⟩
def hdVal (h : Hd) : Value := .agg #[.int .i64 h.reset, .int .i64 h.handler, .int .i64 h.i, .int .i64 h.o, .int .i64 h.r, .int .i64 h.mode]
def imgBad (h : Hd) (n : Int) : Bool := decide (h.mode < 0) || (decide (3 ≤ h.mode) || (!imgPlace h.reset n || !imgPlace h.handler n))
/-- An image's error, among so many bytes. -/
def imgCheck (h : Hd) (n : Int) : Int := if mmCheck h.i h.o h.r n ≠ 0 then mmCheck h.i h.o h.r n else if imgBad h n then 2 else 0
theorem image_check (h : Hd) (n : Int) (w : World) : Calls Try.prog 40 #[hdVal h, .int .i64 n] w fun e w' => e = .returned (.int .i64 (imgCheck h n)) ∧ Below w.heap.size w w' := by
  obtain ⟨rs, hd, i, o, r, md⟩ := h
  unfold hdVal
  simp only
  by_cases hc : mmCheck i o r n = 0
  · have HC := Lib.hid hc
    rw [show imgCheck ⟨rs, hd, i, o, r, md⟩ n = if imgBad ⟨rs, hd, i, o, r, md⟩ n then 2 else 0 by unfold imgCheck; rw [if_neg (by simp only; omega)]]
    clear hc
    generalize hv : (if imgBad ⟨rs, hd, i, o, r, md⟩ n = true then (2 : Int) else 0) = v
    have X : ∀ b, imgBad ⟨rs, hd, i, o, r, md⟩ n = b → v = if b = true then 2 else 0 := fun b hb => by rw [← hv, hb]
    have XX := Lib.hid X
    clear hv X
    go_enter Try.func40, Try.ntmps40
    go_wp2_with fail
    refine (memmap_Check _ _ _ _ _).mono ?_
    rintro e w2 ⟨rfl, hb⟩
    rw [HC.out]
    have hx := (hb.block w.heap.size (by simp)).trans (heap_alloc_new w _)
    have c0 := (cell_of_blk hx 0).1
    have c1 := (cell_of_blk hx 1).1
    have c5 := (cell_of_blk hx 5).1
    simp only [List.getElem?_toArray, List.getElem?_cons_zero, List.getElem?_cons_succ] at c0 c1 c5
    have HB := Lib.hid (bch ((Below.refl _ _).alloc (Nat.le_refl _) _) hb)
    clear hb hx
    by_cases m0 : md < 0
    · go_wp2_with fail
      go_ret
      exact ⟨ret_int (by rw [XX.out true (by simp [imgBad, m0]), if_pos rfl]), HB.out⟩
    · by_cases m3 : 3 ≤ md
      · go_wp2_with fail
        go_ret
        exact ⟨ret_int (by rw [XX.out true (by simp [imgBad, m3]), if_pos rfl]), HB.out⟩
      · cases p1 : imgPlace rs n
        · go_wp2_with (go_at_call 53; refine (image_place rs n _).mono ?_; rintro e w' ⟨rfl, rfl⟩; rw [p1])
          go_ret
          exact ⟨ret_int (by rw [XX.out true (by simp [imgBad, p1]), if_pos rfl]), HB.out⟩
        · cases p2 : imgPlace hd n
          · go_wp2_with (go_at_call 53; refine (image_place _ _ _).mono ?_; rintro e w' ⟨rfl, rfl⟩; first | rw [p1] | rw [p2])
            go_ret
            exact ⟨ret_int (by rw [XX.out true (by simp [imgBad, p2]), if_pos rfl]), HB.out⟩
          · go_wp2_with (go_at_call 53; refine (image_place _ _ _).mono ?_; rintro e w' ⟨rfl, rfl⟩; first | rw [p1] | rw [p2])
            go_ret
            exact ⟨ret_int (by rw [XX.out false (by simp [imgBad, p1, p2]; omega), if_neg (by simp)]), HB.out⟩
  · have hq : (mmCheck i o r n != 0) = true := by rw [bne_iff_ne]; exact hc
    rw [show imgCheck ⟨rs, hd, i, o, r, md⟩ n = mmCheck i o r n by unfold imgCheck; rw [if_pos (by simpa using hc)]]
    clear hc
    go_enter Try.func40, Try.ntmps40
    go_wp2_with (go_at_call 17; refine (memmap_Check _ _ _ _ _).mono ?_; rintro e w2 ⟨rfl, hb⟩)
    go_ret
    exact ⟨rfl, bch ((Below.refl _ _).alloc (Nat.le_refl _) _) hb⟩
end Go.Proofs.Ytgipelnjbpkfjaa
