/- Plain laws of numbers of 32 bits: sums, products, bits. No condition but those that each theorem names. -/
import Derived.Test.YtgkaempkapnfcaaWord
namespace Go.Proofs.Ytgkaempkapnfcaa
open Go.RowKit
theorem bne_of {a b : Nat} (h : a = b) : (((a : Nat) : Int) != (b : Nat)) = false := by subst h; simp
theorem beq_of {a b : Nat} (h : a = b) : (((a : Nat) : Int) == (b : Nat)) = true := by subst h; simp
theorem rings_sub (a b : Int) : wSub (wAdd a b : Nat) b = wd a := by unfold wSub wAdd wd; omega
theorem rings_mul (a b c : Int) : wMul a (wAdd b c : Nat) = wAdd (wMul a b : Nat) (wMul a c : Nat) := by
  unfold wMul wAdd
  rw [wd_wd]
  have e : wd (b + c) = (wd b + wd c) % 4294967296 := by unfold wd; omega
  rw [e, ← Int.natCast_add, wd_castmod, Nat.mul_mod_mod, ← Nat.add_mod, Nat.mul_add]
theorem rings_not (a : Int) : wAdd a (wNot a : Nat) = wNot 0 := by
  have := wd_lt a
  unfold wAdd wNot wd at *; omega
theorem rings_carry (a b : Int) : wSub 0 (wLess (wAdd a b : Nat) b : Nat) = wCarry a b := by
  have h1 := wd_lt a
  have h2 := wd_lt b
  have e : wAdd a b = (wd a + wd b) % 4294967296 := by unfold wAdd wd; omega
  unfold wLess wCarry
  rw [wd_nat (wAdd a b) (wd_lt (a + b)), e]
  by_cases h : (wd a + wd b) % 4294967296 < wd b
  · rw [decide_eq_true h]; unfold wMask wSub; rw [if_pos rfl]
    rw [show wd (0 - ((4294967295 : Nat) : Int)) = 1 from rfl]; omega
  · rw [decide_eq_false h]; unfold wMask wSub; rw [if_neg (by decide)]
    rw [show wd (0 - ((0 : Nat) : Int)) = 0 from rfl]; omega
theorem rings_select (c a b : Int) : wSelect c a b = wOr (wAnd c a : Nat) (wAnd (wNot c : Nat) b : Nat) := by
  have h1 := wd_lt c
  unfold wSelect wOr wAnd
  rw [wd_nat (wd c &&& wd a) (Nat.lt_of_le_of_lt Nat.and_le_left h1)]
  have h2 : wd ((wNot c : Nat) : Int) = 4294967295 - wd c := wd_nat _ (by unfold wNot; omega)
  rw [h2, wd_nat ((4294967295 - wd c) &&& wd b) (Nat.lt_of_le_of_lt Nat.and_le_left (by omega)), Nat.and_comm (wd c), Nat.and_comm (4294967295 - wd c)]
end Go.Proofs.Ytgkaempkapnfcaa
