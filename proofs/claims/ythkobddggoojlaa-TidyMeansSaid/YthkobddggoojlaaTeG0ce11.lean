/- Parts of a proof. No condition but those that each theorem names. -/
import Derived.WalkKit
import Derived.OpenShut
import Derived.Below
import Derived.Lib.Hide
import Derived.Laws.OwnMore
import Derived.Deep.QuietTactic
import Derived.Deep.AppendLies
import Derived.ProofKit
import Derived.SizedLaws
import Derived.Test.YthkobddggoojlaaProg
import Derived.Handy
import Derived.BigQuiet
import Derived.Test.YthkobddggoojlaaTeG0e0
import Derived.Test.YthkobddggoojlaaTeG0e1
import Derived.Test.YthkobddggoojlaaTeG0e2
import Derived.Test.YthkobddggoojlaaTeG0e3
import Derived.Test.YthkobddggoojlaaTeG0e4
import Derived.Test.YthkobddggoojlaaTeG0e8
import Derived.Test.YthkobddggoojlaaTeG0e10
namespace Go.Proofs.Ythkobddggoojlaa
open Go.RowKit
def optVal : Option Nat → Value
  | some v => .tuple #[.int .i64 (v : Nat), .bool true]
  | none => .tuple #[.int .i64 0, .bool false]
def ValPost (x : Option Nat) (w : World) (e : Ending) (w' : World) : Prop := e = .returned (optVal x) ∧ Below w.heap.size w w'
theorem ir_Value_1 (d a' b' c' i a b c : Int) (w : World) : Calls Try.prog 50 #[.agg #[.int .i64 1, .int .i64 d, .int .i64 a', .int .i64 b', .int .i64 c', .int .i64 i], .int .i64 a, .int .i64 b, .int .i64 c] w (ValPost (some (wd i)) w) := by
  go_enter Try.func50, Try.ntmps50
  go_wp2_with fail
  refine (word_Wrap _ _).mono ?_
  rintro e w2 ⟨rfl, rfl⟩
  go_wp2_with fail
  go_ret2
  exact ⟨rfl, bnew _ _⟩
theorem ir_Value_2 (d a' b' c' i a b c : Int) (w : World) : Calls Try.prog 50 #[.agg #[.int .i64 2, .int .i64 d, .int .i64 a', .int .i64 b', .int .i64 c', .int .i64 i], .int .i64 a, .int .i64 b, .int .i64 c] w (ValPost (some (wd a)) w) := by
  go_enter Try.func50, Try.ntmps50
  go_wp2_with fail
  refine (word_Wrap _ _).mono ?_
  rintro e w2 ⟨rfl, rfl⟩
  go_wp2_with fail
  go_ret2
  exact ⟨rfl, bnew _ _⟩
theorem ir_Value_3 (d a' b' c' i a b c : Int) (w : World) : Calls Try.prog 50 #[.agg #[.int .i64 3, .int .i64 d, .int .i64 a', .int .i64 b', .int .i64 c', .int .i64 i], .int .i64 a, .int .i64 b, .int .i64 c] w (ValPost (some (wAdd a b)) w) := by
  go_enter Try.func50, Try.ntmps50
  go_wp2_with fail
  refine (word_Add _ _ _).mono ?_
  rintro e w2 ⟨rfl, rfl⟩
  go_wp2_with fail
  go_ret2
  exact ⟨rfl, bnew _ _⟩
theorem ir_Value_4 (d a' b' c' i a b c : Int) (w : World) : Calls Try.prog 50 #[.agg #[.int .i64 4, .int .i64 d, .int .i64 a', .int .i64 b', .int .i64 c', .int .i64 i], .int .i64 a, .int .i64 b, .int .i64 c] w (ValPost (some (wSub a b)) w) := by
  go_enter Try.func50, Try.ntmps50
  go_wp2_with fail
  refine (word_Sub _ _ _).mono ?_
  rintro e w2 ⟨rfl, rfl⟩
  go_wp2_with fail
  go_ret2
  exact ⟨rfl, bnew _ _⟩
theorem ir_Value_5 (d a' b' c' i a b c : Int) (w : World) : Calls Try.prog 50 #[.agg #[.int .i64 5, .int .i64 d, .int .i64 a', .int .i64 b', .int .i64 c', .int .i64 i], .int .i64 a, .int .i64 b, .int .i64 c] w (ValPost (some (wMul a b)) w) := by
  go_enter Try.func50, Try.ntmps50
  go_wp2_with fail
  refine (word_Mul _ _ _).mono ?_
  rintro e w2 ⟨rfl, rfl⟩
  go_wp2_with fail
  go_ret2
  exact ⟨rfl, bnew _ _⟩
theorem ir_Value_6 (d a' b' c' i a b c : Int) (w : World) : Calls Try.prog 50 #[.agg #[.int .i64 6, .int .i64 d, .int .i64 a', .int .i64 b', .int .i64 c', .int .i64 i], .int .i64 a, .int .i64 b, .int .i64 c] w (ValPost (some (wHigh a b)) w) := by
  go_enter Try.func50, Try.ntmps50
  go_wp2_with fail
  refine (word_High _ _ _).mono ?_
  rintro e w2 ⟨rfl, rfl⟩
  go_wp2_with fail
  go_ret2
  exact ⟨rfl, bnew _ _⟩
theorem ir_Value_7 (d a' b' c' i a b c : Int) (w : World) : Calls Try.prog 50 #[.agg #[.int .i64 7, .int .i64 d, .int .i64 a', .int .i64 b', .int .i64 c', .int .i64 i], .int .i64 a, .int .i64 b, .int .i64 c] w (ValPost (some (wAnd a b)) w) := by
  go_enter Try.func50, Try.ntmps50
  go_wp2_with fail
  refine (word_And _ _ _).mono ?_
  rintro e w2 ⟨rfl, rfl⟩
  go_wp2_with fail
  go_ret2
  exact ⟨rfl, bnew _ _⟩
theorem ir_Value_8 (d a' b' c' i a b c : Int) (w : World) : Calls Try.prog 50 #[.agg #[.int .i64 8, .int .i64 d, .int .i64 a', .int .i64 b', .int .i64 c', .int .i64 i], .int .i64 a, .int .i64 b, .int .i64 c] w (ValPost (some (wOr a b)) w) := by
  go_enter Try.func50, Try.ntmps50
  go_wp2_with fail
  refine (word_Or _ _ _).mono ?_
  rintro e w2 ⟨rfl, rfl⟩
  go_wp2_with fail
  go_ret2
  exact ⟨rfl, bnew _ _⟩
theorem ir_Value_9 (d a' b' c' i a b c : Int) (w : World) : Calls Try.prog 50 #[.agg #[.int .i64 9, .int .i64 d, .int .i64 a', .int .i64 b', .int .i64 c', .int .i64 i], .int .i64 a, .int .i64 b, .int .i64 c] w (ValPost (some (wXor a b)) w) := by
  go_enter Try.func50, Try.ntmps50
  go_wp2_with fail
  refine (word_Xor _ _ _).mono ?_
  rintro e w2 ⟨rfl, rfl⟩
  go_wp2_with fail
  go_ret2
  exact ⟨rfl, bnew _ _⟩
theorem ir_Value_10 (d a' b' c' i a b c : Int) (w : World) : Calls Try.prog 50 #[.agg #[.int .i64 10, .int .i64 d, .int .i64 a', .int .i64 b', .int .i64 c', .int .i64 i], .int .i64 a, .int .i64 b, .int .i64 c] w (ValPost (some (wNot a)) w) := by
  go_enter Try.func50, Try.ntmps50
  go_wp2_with fail
  refine (word_Not _ _).mono ?_
  rintro e w2 ⟨rfl, rfl⟩
  go_wp2_with fail
  go_ret2
  exact ⟨rfl, bnew _ _⟩
theorem ir_Value_11 (d a' b' c' i a b c : Int) (w : World) : Calls Try.prog 50 #[.agg #[.int .i64 11, .int .i64 d, .int .i64 a', .int .i64 b', .int .i64 c', .int .i64 i], .int .i64 a, .int .i64 b, .int .i64 c] w (ValPost (some (wShl a i)) w) := by
  go_enter Try.func50, Try.ntmps50
  go_wp2_with fail
  refine (word_Shl _ _ _).mono ?_
  rintro e w2 ⟨rfl, rfl⟩
  go_wp2_with fail
  go_ret2
  exact ⟨rfl, bnew _ _⟩
theorem ir_Value_12 (d a' b' c' i a b c : Int) (w : World) : Calls Try.prog 50 #[.agg #[.int .i64 12, .int .i64 d, .int .i64 a', .int .i64 b', .int .i64 c', .int .i64 i], .int .i64 a, .int .i64 b, .int .i64 c] w (ValPost (some (wShr a i)) w) := by
  go_enter Try.func50, Try.ntmps50
  go_wp2_with fail
  refine (word_Shr _ _ _).mono ?_
  rintro e w2 ⟨rfl, rfl⟩
  go_wp2_with fail
  go_ret2
  exact ⟨rfl, bnew _ _⟩
theorem ir_Value_13 (d a' b' c' i a b c : Int) (w : World) : Calls Try.prog 50 #[.agg #[.int .i64 13, .int .i64 d, .int .i64 a', .int .i64 b', .int .i64 c', .int .i64 i], .int .i64 a, .int .i64 b, .int .i64 c] w (ValPost (some (wRor a i)) w) := by
  go_enter Try.func50, Try.ntmps50
  go_wp2_with fail
  refine (word_Ror _ _ _).mono ?_
  rintro e w2 ⟨rfl, rfl⟩
  go_wp2_with fail
  go_ret2
  exact ⟨rfl, bnew _ _⟩
theorem ir_Value_14 (d a' b' c' i a b c : Int) (w : World) : Calls Try.prog 50 #[.agg #[.int .i64 14, .int .i64 d, .int .i64 a', .int .i64 b', .int .i64 c', .int .i64 i], .int .i64 a, .int .i64 b, .int .i64 c] w (ValPost (some (wLess a b)) w) := by
  go_enter Try.func50, Try.ntmps50
  go_wp2_with fail
  refine (word_Less _ _ _).mono ?_
  rintro e w2 ⟨rfl, rfl⟩
  go_wp2_with fail
  go_ret2
  exact ⟨rfl, bnew _ _⟩
theorem ir_Value_15 (d a' b' c' i a b c : Int) (w : World) : Calls Try.prog 50 #[.agg #[.int .i64 15, .int .i64 d, .int .i64 a', .int .i64 b', .int .i64 c', .int .i64 i], .int .i64 a, .int .i64 b, .int .i64 c] w (ValPost (some (wSame a b)) w) := by
  go_enter Try.func50, Try.ntmps50
  go_wp2_with fail
  refine (word_Same _ _ _).mono ?_
  rintro e w2 ⟨rfl, rfl⟩
  go_wp2_with fail
  go_ret2
  exact ⟨rfl, bnew _ _⟩
theorem ir_Value_16 (d a' b' c' i a b c : Int) (w : World) : Calls Try.prog 50 #[.agg #[.int .i64 16, .int .i64 d, .int .i64 a', .int .i64 b', .int .i64 c', .int .i64 i], .int .i64 a, .int .i64 b, .int .i64 c] w (ValPost (some (wCarry a b)) w) := by
  go_enter Try.func50, Try.ntmps50
  go_wp2_with fail
  refine (word_Carry _ _ _).mono ?_
  rintro e w2 ⟨rfl, rfl⟩
  go_wp2_with fail
  go_ret2
  exact ⟨rfl, bnew _ _⟩
theorem ir_Value_17 (d a' b' c' i a b c : Int) (w : World) : Calls Try.prog 50 #[.agg #[.int .i64 17, .int .i64 d, .int .i64 a', .int .i64 b', .int .i64 c', .int .i64 i], .int .i64 a, .int .i64 b, .int .i64 c] w (ValPost (some (wSelect c a b)) w) := by
  go_enter Try.func50, Try.ntmps50
  go_wp2_with fail
  refine (word_Select _ _ _ _).mono ?_
  rintro e w2 ⟨rfl, rfl⟩
  go_wp2_with fail
  go_ret2
  exact ⟨rfl, bnew _ _⟩
theorem ir_Value_no (k d a' b' c' i a b c : Int) (h : k < 1 ∨ 17 < k) (w : World) : Calls Try.prog 50 #[.agg #[.int .i64 k, .int .i64 d, .int .i64 a', .int .i64 b', .int .i64 c', .int .i64 i], .int .i64 a, .int .i64 b, .int .i64 c] w (ValPost none w) := by
  have hn : ∀ j : Int, 1 ≤ j → j ≤ 17 → (k == j) = false := by intro j h1 h2; rw [beq_eq_false_iff_ne]; omega
  have q1 := hn 1 (by omega) (by omega)
  have q2 := hn 2 (by omega) (by omega)
  have q3 := hn 3 (by omega) (by omega)
  have q4 := hn 4 (by omega) (by omega)
  have q5 := hn 5 (by omega) (by omega)
  have q6 := hn 6 (by omega) (by omega)
  have q7 := hn 7 (by omega) (by omega)
  have q8 := hn 8 (by omega) (by omega)
  have q9 := hn 9 (by omega) (by omega)
  have q10 := hn 10 (by omega) (by omega)
  have q11 := hn 11 (by omega) (by omega)
  have q12 := hn 12 (by omega) (by omega)
  have q13 := hn 13 (by omega) (by omega)
  have q14 := hn 14 (by omega) (by omega)
  have q15 := hn 15 (by omega) (by omega)
  have q16 := hn 16 (by omega) (by omega)
  have q17 := hn 17 (by omega) (by omega)
  clear hn h
  go_enter Try.func50, Try.ntmps50
  go_wp2_with fail
  go_ret2
  exact ⟨rfl, bnew _ _⟩
theorem ir_Value (o : Opn) (a b c : Int) (w : World) : Calls Try.prog 50 #[opVal o, .int .i64 a, .int .i64 b, .int .i64 c] w (ValPost (valP o a b c) w) := by
  obtain ⟨k, d, a', b', c', i⟩ := o
  by_cases h : 1 ≤ k ∧ k ≤ 17
  · have e : k = 1 ∨ k = 2 ∨ k = 3 ∨ k = 4 ∨ k = 5 ∨ k = 6 ∨ k = 7 ∨ k = 8 ∨ k = 9 ∨ k = 10 ∨ k = 11 ∨ k = 12 ∨ k = 13 ∨ k = 14 ∨ k = 15 ∨ k = 16 ∨ k = 17 := by omega
    clear h
    rcases e with rfl | rfl | rfl | rfl | rfl | rfl | rfl | rfl | rfl | rfl | rfl | rfl | rfl | rfl | rfl | rfl | rfl
    · exact ir_Value_1 d a' b' c' i a b c w
    · exact ir_Value_2 d a' b' c' i a b c w
    · exact ir_Value_3 d a' b' c' i a b c w
    · exact ir_Value_4 d a' b' c' i a b c w
    · exact ir_Value_5 d a' b' c' i a b c w
    · exact ir_Value_6 d a' b' c' i a b c w
    · exact ir_Value_7 d a' b' c' i a b c w
    · exact ir_Value_8 d a' b' c' i a b c w
    · exact ir_Value_9 d a' b' c' i a b c w
    · exact ir_Value_10 d a' b' c' i a b c w
    · exact ir_Value_11 d a' b' c' i a b c w
    · exact ir_Value_12 d a' b' c' i a b c w
    · exact ir_Value_13 d a' b' c' i a b c w
    · exact ir_Value_14 d a' b' c' i a b c w
    · exact ir_Value_15 d a' b' c' i a b c w
    · exact ir_Value_16 d a' b' c' i a b c w
    · exact ir_Value_17 d a' b' c' i a b c w
  · have e : valP ⟨k, d, a', b', c', i⟩ a b c = none := by
      unfold valP
      simp only
      rw [if_neg (by omega), if_neg (by omega), if_neg (by omega), if_neg (by omega), if_neg (by omega), if_neg (by omega), if_neg (by omega), if_neg (by omega), if_neg (by omega), if_neg (by omega), if_neg (by omega), if_neg (by omega), if_neg (by omega), if_neg (by omega), if_neg (by omega), if_neg (by omega), if_neg (by omega)]
    rw [e]
    exact ir_Value_no k d a' b' c' i a b c (by omega) w
end Go.Proofs.Ythkobddggoojlaa
