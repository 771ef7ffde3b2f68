/- Parts of a proof. No condition but those that each theorem names. -/
import Derived.WalkKit
import Derived.ProofKit
namespace Go.Proofs.Ythkobddggoojlaa
open Go.RowKit

/-- The word of a number, as a natural number. -/
def wd (n : Int) : Nat := (n % 4294967296).toNat

theorem wd_lt (n : Int) : wd n < 4294967296 := by unfold wd; omega
theorem wd_cast (n : Int) : ((wd n : Nat) : Int) = n % 4294967296 := by unfold wd; omega
theorem wd_nat (n : Nat) (h : n < 4294967296) : wd (n : Int) = n := by unfold wd; omega
theorem wd_wd (n : Int) : wd ((wd n : Nat) : Int) = wd n := by unfold wd; omega
theorem wd_wrap64 (n : Int) : wd (wrap64 n) = wd n := by unfold wd wrap64; omega
theorem wrap64_small (n : Int) (h0 : -9223372036854775808 ≤ n) (h1 : n < 9223372036854775808) : wrap64 n = n := by unfold wrap64; omega
theorem wrapu64 (n : Int) : IntKind.u64.wrap n = n % 18446744073709551616 := by simp [IntKind.wrap, IntKind.bits, IntKind.signed]
theorem wrapi64 (n : Int) : IntKind.i64.wrap n = wrap64 n := by
  simp only [IntKind.wrap, IntKind.bits, IntKind.signed, wrap64]
  simp
  split <;> omega

theorem bv_nat (n : Int) : (BitVec.ofInt 64 n).toNat % 4294967296 = wd n := by
  rw [BitVec.toNat_ofInt]; unfold wd; omega

theorem wd_of_bv (x : Nat) : wd (IntKind.i64.wrap (x : Int)) = x % 4294967296 := by
  rw [wrapi64, wd_wrap64]; unfold wd; omega

theorem wd_and (a b : Int) : wd (bits .and .i64 a b) = wd a &&& wd b := by
  show wd (IntKind.i64.wrap ((BitVec.ofInt 64 a &&& BitVec.ofInt 64 b).toNat : Int)) = _
  rw [wd_of_bv, BitVec.toNat_and, ← bv_nat a, ← bv_nat b]
  exact Nat.and_mod_two_pow (n := 32)
theorem wd_or (a b : Int) : wd (bits .or .i64 a b) = wd a ||| wd b := by
  show wd (IntKind.i64.wrap ((BitVec.ofInt 64 a ||| BitVec.ofInt 64 b).toNat : Int)) = _
  rw [wd_of_bv, BitVec.toNat_or, ← bv_nat a, ← bv_nat b]
  exact Nat.or_mod_two_pow (n := 32)
theorem wd_xor (a b : Int) : wd (bits .xor .i64 a b) = wd a ^^^ wd b := by
  show wd (IntKind.i64.wrap ((BitVec.ofInt 64 a ^^^ BitVec.ofInt 64 b).toNat : Int)) = _
  rw [wd_of_bv, BitVec.toNat_xor, ← bv_nat a, ← bv_nat b]
  exact Nat.xor_mod_two_pow (n := 32)
theorem wd_andNot (a b : Int) : wd (bits .andNot .i64 a b) = wd a &&& (4294967295 ^^^ wd b) := by
  show wd (IntKind.i64.wrap ((BitVec.ofInt 64 a &&& ~~~ BitVec.ofInt 64 b).toNat : Int)) = _
  rw [wd_of_bv, BitVec.toNat_and, ← bv_nat a, ← bv_nat b]
  rw [show (4294967296 : Nat) = 2 ^ 32 from rfl, Nat.and_mod_two_pow]
  congr 1
  apply Nat.eq_of_testBit_eq
  intro i
  rw [show (4294967295 : Nat) = 2 ^ 32 - 1 from rfl]
  simp only [Nat.testBit_mod_two_pow, Nat.testBit_xor, Nat.testBit_two_pow_sub_one]
  generalize BitVec.ofInt 64 b = y
  by_cases h : i < 32
  · have h' : i < 64 := by omega
    rw [BitVec.testBit_toNat, BitVec.getLsbD_not, BitVec.testBit_toNat]
    simp [h, h']
  · simp [h]

theorem and_ones (n : Int) : bits .and .i64 n 4294967295 = n % 4294967296 := by
  show IntKind.i64.wrap ((BitVec.ofInt 64 n &&& BitVec.ofInt 64 4294967295).toNat : Int) = _
  rw [BitVec.toNat_and, show (BitVec.ofInt 64 4294967295).toNat = 2 ^ 32 - 1 from rfl, Nat.and_two_pow_sub_one_eq_mod, bv_nat n, wrapi64, ← wd_cast]
  have := wd_lt n
  unfold wrap64; omega
theorem and_31 (n : Int) : bits .and .i64 n 31 = n % 32 := by
  show IntKind.i64.wrap ((BitVec.ofInt 64 n &&& BitVec.ofInt 64 31).toNat : Int) = _
  rw [BitVec.toNat_and, show (BitVec.ofInt 64 31).toNat = 2 ^ 5 - 1 from rfl, Nat.and_two_pow_sub_one_eq_mod, BitVec.toNat_ofInt, wrapi64]
  unfold wrap64; omega
theorem uand_ones (n : Int) : bits .and .u64 n 4294967295 = n % 4294967296 := by
  show IntKind.u64.wrap ((BitVec.ofInt 64 n &&& BitVec.ofInt 64 4294967295).toNat : Int) = _
  rw [BitVec.toNat_and, show (BitVec.ofInt 64 4294967295).toNat = 2 ^ 32 - 1 from rfl, Nat.and_two_pow_sub_one_eq_mod, bv_nat n, wrapu64, ← wd_cast]
  have := wd_lt n
  omega
theorem wd_not (a : Int) : wd (bits .xor .i64 (-1) a) = 4294967295 ^^^ wd a := by
  rw [wd_xor]; rfl
theorem ones_xor (x : Nat) (h : x < 4294967296) : 4294967295 ^^^ x = 4294967295 - x := by
  apply Nat.eq_of_testBit_eq
  intro i
  rw [show (4294967295 : Nat) - x = 2 ^ 32 - (x + 1) from by omega, Nat.testBit_two_pow_sub_succ h, show (4294967295 : Nat) = 2 ^ 32 - 1 from rfl, Nat.testBit_xor, Nat.testBit_two_pow_sub_one]
  by_cases hi : i < 32
  · simp [hi]
  · simp [hi]
    exact Nat.testBit_lt_two_pow (Nat.lt_of_lt_of_le (m := 2 ^ 32) h (Nat.pow_le_pow_right (by decide) (by omega)))
end Go.Proofs.Ythkobddggoojlaa
