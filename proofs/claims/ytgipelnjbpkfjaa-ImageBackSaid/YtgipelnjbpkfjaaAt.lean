/- Contracts of at of image and of hauberkref06: the number of the k-th word of bytes. -/
import Derived.Test.YtgipelnjbpkfjaaImgP
import Derived.Test.YtgipelnjbpkfjaaWb
namespace Go.Proofs.Ytgipelnjbpkfjaa
open Go.RowKit

theorem extract4 (s : ByteArray) (n : Nat) (h : 4 * n + 4 ≤ s.size) : s.extract (4 * n) (4 * n + 4) = ⟨#[s.data.toList.getD (4 * n) 0, s.data.toList.getD (4 * n + 1) 0, s.data.toList.getD (4 * n + 2) 0, s.data.toList.getD (4 * n + 3) 0]⟩ := by
  have hl : s.data.toList.length = s.size := by rw [Array.length_toList, ByteArray.size_data]
  apply ByteArray.ext
  apply Array.toList_inj.1
  simp only [ByteArray.data_extract, Array.toList_extract, List.extract_eq_take_drop]
  rw [show 4 * n + 4 - 4 * n = 4 by omega]
  rw [List.drop_eq_getElem_cons (by omega), List.drop_eq_getElem_cons (by omega), List.drop_eq_getElem_cons (by omega), List.drop_eq_getElem_cons (by omega)]
  simp only [List.take_succ_cons, List.take_zero, List.getD, List.getElem?_eq_getElem (show 4 * n < s.data.toList.length by omega), List.getElem?_eq_getElem (show 4 * n + 1 < s.data.toList.length by omega), List.getElem?_eq_getElem (show 4 * n + 2 < s.data.toList.length by omega), List.getElem?_eq_getElem (show 4 * n + 3 < s.data.toList.length by omega), Option.getD_some]
theorem image_at (s : ByteArray) (hs : 64 ≤ s.size) (k : Int) (h0 : 0 ≤ k) (h1 : k ≤ 15) (w : World) :
    Calls Try.prog 47 #[.string s, .int .i64 k] w fun e w' => e = .returned (.int .i64 (lWord s.data.toList k.toNat)) ∧ w = w' := by
  obtain ⟨n, rfl⟩ := Int.eq_ofNat_of_zero_le h0
  have hx := extract4 s n (by omega)
  have hw : lWord s.data.toList n = ((le4 (s.data.toList.getD (4 * n) 0) (s.data.toList.getD (4 * n + 1) 0) (s.data.toList.getD (4 * n + 2) 0) (s.data.toList.getD (4 * n + 3) 0) : Nat) : Int) := rfl
  generalize s.data.toList.getD (4 * n) 0 = b0 at hx hw
  generalize s.data.toList.getD (4 * n + 1) 0 = b1 at hx hw
  generalize s.data.toList.getD (4 * n + 2) 0 = b2 at hx hw
  generalize s.data.toList.getD (4 * n + 3) 0 = b3 at hx hw
  have HX := Lib.hid hx
  have HW := Lib.hid hw
  clear hx hw
  have q1 : 4 * (n : Int) + 4 ≤ (s.size : Int) := by omega
  have q2 : 0 ≤ 4 * (n : Int) := by omega
  have q3 : 4 * (n : Int) ≤ 4 * (n : Int) + 4 := by omega
  have q4 : (4 * (n : Int)).toNat = 4 * n := by omega
  have q5 : (4 * (n : Int) + 4).toNat = 4 * n + 4 := by omega
  have hsl : ∀ W, (Instr.slice 9 (.string s) (some (.int .i64 (4 * (n : Int)))) (some (.int .i64 (4 * (n : Int) + 4))) none).run Try.prog W = .ok (.string (s.extract (4 * n) (4 * n + 4))) W := by
    intro W
    rw [run_slice_string W 9 s .i64 .i64 _ _ Try.underlying9 q2 q3 q1, q4, q5]
  rw [HX.out] at hsl
  clear q1 q2 q3 q4 q5
  go_enter Try.func47, Try.ntmps47
  go_wp2_with fail
  refine (word_Of_yes _ _ _ _ _).mono ?_
  rintro e w' ⟨rfl, rfl⟩
  go_wp2_with fail
  go_ret
  exact ⟨ret_int HW.out.symm, rfl⟩
theorem ref06_at (s : ByteArray) (hs : 64 ≤ s.size) (k : Int) (h0 : 0 ≤ k) (h1 : k ≤ 15) (w : World) :
    Calls Try.prog 48 #[.string s, .int .i64 k] w fun e w' => e = .returned (.int .i64 (lWord s.data.toList k.toNat)) ∧ ∃ n, w' = w.drewN n := by
  obtain ⟨n, rfl⟩ := Int.eq_ofNat_of_zero_le h0
  have hx := extract4 s n (by omega)
  have hw : lWord s.data.toList n = ((le4 (s.data.toList.getD (4 * n) 0) (s.data.toList.getD (4 * n + 1) 0) (s.data.toList.getD (4 * n + 2) 0) (s.data.toList.getD (4 * n + 3) 0) : Nat) : Int) := rfl
  generalize s.data.toList.getD (4 * n) 0 = b0 at hx hw
  generalize s.data.toList.getD (4 * n + 1) 0 = b1 at hx hw
  generalize s.data.toList.getD (4 * n + 2) 0 = b2 at hx hw
  generalize s.data.toList.getD (4 * n + 3) 0 = b3 at hx hw
  have HX := Lib.hid hx
  have HW := Lib.hid hw
  clear hx hw
  have q1 : 4 * (n : Int) + 4 ≤ (s.size : Int) := by omega
  have q2 : 0 ≤ 4 * (n : Int) := by omega
  have q3 : 4 * (n : Int) ≤ 4 * (n : Int) + 4 := by omega
  have q4 : (4 * (n : Int)).toNat = 4 * n := by omega
  have q5 : (4 * (n : Int) + 4).toNat = 4 * n + 4 := by omega
  have hsl : ∀ W, (Instr.slice 9 (.string s) (some (.int .i64 (4 * (n : Int)))) (some (.int .i64 (4 * (n : Int) + 4))) none).run Try.prog W = .ok (.string (s.extract (4 * n) (4 * n + 4))) W := by
    intro W
    rw [run_slice_string W 9 s .i64 .i64 _ _ Try.underlying9 q2 q3 q1, q4, q5]
  rw [HX.out] at hsl
  clear q1 q2 q3 q4 q5
  go_enter Try.func48, Try.ntmps48
  go_wp2_with fail
  refine (ref_Of_yes _ _ _ _ _).mono ?_
  rintro e w' ⟨rfl, m, rfl⟩
  go_wp2_with fail
  go_ret
  exact ⟨ret_int HW.out.symm, m, rfl⟩
end Go.Proofs.Ytgipelnjbpkfjaa
