/- Contracts of ir's small functions. No condition but those that each theorem names. -/
import Derived.Test.YtiaimceefkdchaaFrameSpec
import Derived.Test.YtiaimceefkdchaaWMath
import Derived.Handy
namespace Go.Proofs.Ytiaimceefkdchaa
open Go.RowKit
theorem ir_within (n a b : Int) (w : World) : Calls Try.prog 64 #[.int .i64 n, .int .i64 a, .int .i64 b] w fun e w' => e = .returned (.bool (decide (a ≤ n ∧ n ≤ b))) ∧ w = w' := by
  go_enter Try.func64, Try.ntmps64
  by_cases h1 : a ≤ n
  · by_cases h2 : n ≤ b
    all_goals
      go_wp2
      go_ret
      exact ⟨ret_bool (by simp; omega), rfl⟩
  · go_wp2
    go_ret
    exact ⟨ret_bool (by simp; omega), rfl⟩
theorem ir_up (n : Int) (h0 : 0 ≤ n) (h1 : n ≤ 1000000000) (w : World) : Calls Try.prog 95 #[.int .i64 n] w fun e w' => e = .returned (.int .i64 (up4 n)) ∧ w = w' := by
  go_enter Try.func95, Try.ntmps95
  go_wp2
  go_ret
  refine ⟨ret_int ?_, rfl⟩
  unfold up4
  omega
theorem ir_shaped (a : Arr) (w : World) : Calls Try.prog 94 #[.agg #[.int .i64 a.elem, .int .i64 a.len, .int .i64 a.kind, .int .i64 a.off]] w fun e w' => e = .returned (.bool (decide (shapedP a))) ∧ Below w.heap.size w w' := by
  obtain ⟨x, l, k, o⟩ := a
  simp only
  unfold shapedP
  simp only
  go_enter Try.func94, Try.ntmps94
  by_cases h1 : x = 1
  · subst h1
    by_cases h2 : 1 ≤ l
    · by_cases h3 : l ≤ 16384
      all_goals
        go_wp2
        go_ret
        exact ⟨ret_bool (by first | (simp; done) | (simp; omega) | (simp; intro h; omega)), bnew _ _⟩
    · go_wp2
      go_ret
      exact ⟨ret_bool (by first | (simp; done) | (simp; omega) | (simp; intro h; omega)), bnew _ _⟩
  · by_cases h4 : x = 4
    · subst h4
      by_cases h2 : 1 ≤ l
      · by_cases h3 : l ≤ 16384
        all_goals
          go_wp2
          go_ret
          exact ⟨ret_bool (by first | (simp; done) | (simp; omega) | (simp; intro h; omega)), bnew _ _⟩
      · go_wp2
        go_ret
        exact ⟨ret_bool (by first | (simp; done) | (simp; omega) | (simp; intro h; omega)), bnew _ _⟩
    · have q1 : (x == 1) = false := by rw [beq_eq_false_iff_ne]; exact h1
      have q4 : (x == 4) = false := by rw [beq_eq_false_iff_ne]; exact h4
      go_wp2
      go_ret
      exact ⟨ret_bool (by simp [h1, h4]), bnew _ _⟩
def formVal (k : Int) : Value := .agg #[.bool (fDst k), .int .i64 (fSrc k : Nat), .int .i64 0, .int .i64 (fMost k), .bool (fOk k)]
set_option maxHeartbeats 4000000 in
theorem ir_formOf (k : Int) (w : World) : Calls Try.prog 53 #[.int .i64 k] w fun e w' => e = .returned (formVal k) ∧ Below w.heap.size w w' := by
  by_cases h : 1 ≤ k ∧ k ≤ 19
  · have hk : k = 1 ∨ k = 2 ∨ k = 3 ∨ k = 4 ∨ k = 5 ∨ k = 6 ∨ k = 7 ∨ k = 8 ∨ k = 9 ∨ k = 10 ∨ k = 11 ∨ k = 12 ∨ k = 13 ∨ k = 14 ∨ k = 15 ∨ k = 16 ∨ k = 17 ∨ k = 18 ∨ k = 19 := by omega
    clear h
    rcases hk with rfl | rfl | rfl | rfl | rfl | rfl | rfl | rfl | rfl | rfl | rfl | rfl | rfl | rfl | rfl | rfl | rfl | rfl | rfl
    all_goals
      go_enter Try.func53, Try.ntmps53
      go_wp2
      go_returns
      exact ⟨rfl, bnew _ _⟩
  · have hn : ∀ j : Int, 1 ≤ j → j ≤ 19 → (k == j) = false := by intro j h1 h2; rw [beq_eq_false_iff_ne]; omega
    have e : formVal k = .agg #[.bool false, .int .i64 0, .int .i64 0, .int .i64 0, .bool false] := by
      unfold formVal fDst fSrc fMost fOk
      rw [decide_eq_false (by omega), if_neg (by omega), if_neg (by omega), if_neg (by omega), if_neg (by omega), if_neg (by omega), if_neg (by omega), decide_eq_false (by omega)]
      rfl
    rw [e]
    have q1 := hn 1 (by omega) (by omega)
    have q2 := hn 2 (by omega) (by omega)
    have q3 := hn 3 (by omega) (by omega)
    have q4 := hn 4 (by omega) (by omega)
    have q5 := hn 5 (by omega) (by omega)
    have q6 := hn 6 (by omega) (by omega)
    have q7 := hn 7 (by omega) (by omega)
    have q8 := hn 8 (by omega) (by omega)
    have q9 := hn 9 (by omega) (by omega)
    have q10 := hn 10 (by omega) (by omega)
    have q11 := hn 11 (by omega) (by omega)
    have q12 := hn 12 (by omega) (by omega)
    have q13 := hn 13 (by omega) (by omega)
    have q14 := hn 14 (by omega) (by omega)
    have q15 := hn 15 (by omega) (by omega)
    have q16 := hn 16 (by omega) (by omega)
    have q17 := hn 17 (by omega) (by omega)
    have q18 := hn 18 (by omega) (by omega)
    have q19 := hn 19 (by omega) (by omega)
    clear hn h e
    go_enter Try.func53, Try.ntmps53
    go_wp2
    go_returns
    exact ⟨rfl, bnew _ _⟩
end Go.Proofs.Ytiaimceefkdchaa
