/- Parts of a proof, joined. No condition but those that each theorem names. -/
import Derived.WalkKit
import Derived.ProofKit
import Derived.Test.YthkobddggoojlaaProg
import Derived.OpenShut
import Derived.Lib.Hide
import Derived.Test.YthkobddggoojlaaTeG0e3
namespace Go.Proofs.Ythkobddggoojlaa
open Go.RowKit

/-- A number of bits. -/
def sh (n : Int) : Nat := (n % 32).toNat
theorem sh_lt (n : Int) : sh n < 32 := by unfold sh; omega
theorem sh_cast (n : Int) : ((sh n : Nat) : Int) = n % 32 := by unfold sh; omega
def wAdd (a b : Int) : Nat := wd (a + b)
def wSub (a b : Int) : Nat := wd (a - b)
def wMul (a b : Int) : Nat := wd a * wd b % 4294967296
def wHigh (a b : Int) : Nat := wd a * wd b / 4294967296
def wCarry (a b : Int) : Nat := (wd a + wd b) / 4294967296
def wNot (a : Int) : Nat := 4294967295 - wd a
def wAnd (a b : Int) : Nat := wd a &&& wd b
def wOr (a b : Int) : Nat := wd a ||| wd b
def wXor (a b : Int) : Nat := wd a ^^^ wd b
def wSelect (m a b : Int) : Nat := (wd a &&& wd m) ||| (wd b &&& (4294967295 - wd m))
def wShl (a n : Int) : Nat := wd a * 2 ^ sh n % 4294967296
def wShr (a n : Int) : Nat := wd a / 2 ^ sh n
def wRor (a n : Int) : Nat := wd a / 2 ^ sh n + wd a % 2 ^ sh n * 2 ^ (32 - sh n)
def wMask (b : Bool) : Nat := if b then 4294967295 else 0
def wLess (a b : Int) : Nat := wMask (decide (wd a < wd b))
def wSame (a b : Int) : Nat := wMask (decide (wd a = wd b))
theorem ret_int {k : IntKind} {a b : Int} (h : a = b) : Ending.returned (.int k a) = .returned (.int k b) := by rw [h]

theorem word_Wrap (n : Int) (w : World) : Calls Try.prog 57 #[.int .i64 n] w fun e w' => e = .returned (.int .i64 (wd n : Nat)) ∧ w = w' := by
  go_enter Try.func57, Try.ntmps57
  go_wp2
  go_ret
  exact ⟨ret_int (by rw [and_ones, wd_cast]), rfl⟩
theorem word_many (n : Int) (w : World) : Calls Try.prog 74 #[.int .i64 n] w fun e w' => e = .returned (.int .i64 (sh n : Nat)) ∧ w = w' := by
  go_enter Try.func74, Try.ntmps74
  go_wp2
  go_ret
  exact ⟨ret_int (by rw [and_31, sh_cast]), rfl⟩
theorem word_Add (a b : Int) (w : World) : Calls Try.prog 58 #[.int .i64 a, .int .i64 b] w fun e w' => e = .returned (.int .i64 (wAdd a b : Nat)) ∧ w = w' := by
  go_enter Try.func58, Try.ntmps58
  go_wp2_with (go_at_call 57; refine (word_Wrap _ _).mono ?_; rintro e w' ⟨rfl, rfl⟩)
  go_ret
  exact ⟨ret_int (by rw [wd_wrap64]; rfl), rfl⟩
theorem word_Sub (a b : Int) (w : World) : Calls Try.prog 59 #[.int .i64 a, .int .i64 b] w fun e w' => e = .returned (.int .i64 (wSub a b : Nat)) ∧ w = w' := by
  go_enter Try.func59, Try.ntmps59
  go_wp2_with (go_at_call 57; refine (word_Wrap _ _).mono ?_; rintro e w' ⟨rfl, rfl⟩)
  go_ret
  exact ⟨ret_int (by rw [wd_wrap64]; rfl), rfl⟩
theorem mul_lt (a b : Int) : wd a * wd b < 18446744073709551616 :=
  Nat.lt_of_le_of_lt (Nat.mul_le_mul (Nat.le_of_lt_succ (wd_lt a)) (Nat.le_of_lt_succ (wd_lt b))) (by decide)
theorem wrapu_wd (a : Int) : IntKind.u64.wrap ((wd a : Nat) : Int) = (wd a : Nat) := by
  rw [wrapu64]; have := wd_lt a; omega
theorem word_product (a b : Int) (w : World) : Calls Try.prog 73 #[.int .i64 a, .int .i64 b] w fun e w' => e = .returned (.int .u64 (wd a * wd b : Nat)) ∧ w = w' := by
  go_enter Try.func73, Try.ntmps73
  go_wp2_with (go_at_call 57; refine (word_Wrap _ _).mono ?_; rintro e w' ⟨rfl, rfl⟩)
  go_ret
  exact ⟨ret_int (by rw [wrapu_wd, wrapu_wd, wrapu64, ← Int.natCast_mul]; have h := mul_lt a b; generalize wd a * wd b = x at *; omega), rfl⟩
theorem pow_cast (k : Nat) : (2 : Int) ^ k = ((2 ^ k : Nat) : Int) := by rw [Int.natCast_pow]; rfl
theorem ediv_cast (x k : Nat) : (x : Int) / 2 ^ k = ((x / 2 ^ k : Nat) : Int) := by rw [pow_cast]; rfl
theorem beq_cast (a b : Nat) : ((a : Int) == (b : Int)) = decide (a = b) := by
  by_cases h : a = b
  · subst h; simp
  · have h' : ¬ (a : Int) = b := by omega
    simp [h, h']
theorem wd_castmod (x : Nat) : wd (x : Int) = x % 4294967296 := by unfold wd; omega
theorem ror_nat (x k : Nat) (hx : x < 4294967296) (hk : k < 32) : x / 2 ^ k ||| x * 2 ^ (32 - k) % 4294967296 = x / 2 ^ k + x % 2 ^ k * 2 ^ (32 - k) := by
  have e : (4294967296 : Nat) = 2 ^ k * 2 ^ (32 - k) := by rw [← Nat.pow_add, show k + (32 - k) = 32 by omega]
  have h1 : x * 2 ^ (32 - k) % 4294967296 = x % 2 ^ k * 2 ^ (32 - k) := by rw [e, Nat.mul_mod_mul_right]
  rw [h1, Nat.or_comm, nat_join (32 - k) _ _ (Nat.mul_mod_left _ _) (Nat.div_lt_of_lt_mul (by rw [← e]; exact hx)), Nat.add_comm]
theorem min_sh (n : Int) : min (sh n) 64 = sh n := by have := sh_lt n; omega
theorem word_Mul (a b : Int) (w : World) : Calls Try.prog 60 #[.int .i64 a, .int .i64 b] w fun e w' => e = .returned (.int .i64 (wMul a b : Nat)) ∧ w = w' := by
  go_enter Try.func60, Try.ntmps60
  go_wp2_with (first | (go_at_call 73; refine (word_product _ _ _).mono ?_; rintro e w' ⟨rfl, rfl⟩))
  go_ret
  exact ⟨ret_int (by rw [← Int.natCast_mul]; unfold wMul; generalize wd a * wd b = x; rw [uand_ones, wrap64_small _ (by omega) (by omega)]; omega), rfl⟩
theorem word_High (a b : Int) (w : World) : Calls Try.prog 61 #[.int .i64 a, .int .i64 b] w fun e w' => e = .returned (.int .i64 (wHigh a b : Nat)) ∧ w = w' := by
  go_enter Try.func61, Try.ntmps61
  go_wp2_with (first | (go_at_call 73; refine (word_product _ _ _).mono ?_; rintro e w' ⟨rfl, rfl⟩))
  go_ret
  exact ⟨ret_int (by have h := mul_lt a b; rw [← Int.natCast_mul]; unfold wHigh; generalize wd a * wd b = x at *; rw [wrap64_small _ (by omega) (by omega)]; omega), rfl⟩
theorem word_Not (a : Int) (w : World) : Calls Try.prog 65 #[.int .i64 a] w fun e w' => e = .returned (.int .i64 (wNot a : Nat)) ∧ w = w' := by
  go_enter Try.func65, Try.ntmps65
  go_wp2_with (first | (go_at_call 57; refine (word_Wrap _ _).mono ?_; rintro e w' ⟨rfl, rfl⟩))
  all_goals go_ret
  all_goals exact ⟨ret_int (by rw [wd_not, ones_xor _ (wd_lt a)]; rfl), rfl⟩
theorem word_And (a b : Int) (w : World) : Calls Try.prog 62 #[.int .i64 a, .int .i64 b] w fun e w' => e = .returned (.int .i64 (wAnd a b : Nat)) ∧ w = w' := by
  go_enter Try.func62, Try.ntmps62
  go_wp2_with (first | (go_at_call 57; refine (word_Wrap _ _).mono ?_; rintro e w' ⟨rfl, rfl⟩))
  go_ret
  exact ⟨ret_int (by rw [wd_and]; rfl), rfl⟩
theorem word_Or (a b : Int) (w : World) : Calls Try.prog 63 #[.int .i64 a, .int .i64 b] w fun e w' => e = .returned (.int .i64 (wOr a b : Nat)) ∧ w = w' := by
  go_enter Try.func63, Try.ntmps63
  go_wp2_with (first | (go_at_call 57; refine (word_Wrap _ _).mono ?_; rintro e w' ⟨rfl, rfl⟩))
  go_ret
  exact ⟨ret_int (by rw [wd_or]; rfl), rfl⟩
theorem word_Xor (a b : Int) (w : World) : Calls Try.prog 64 #[.int .i64 a, .int .i64 b] w fun e w' => e = .returned (.int .i64 (wXor a b : Nat)) ∧ w = w' := by
  go_enter Try.func64, Try.ntmps64
  go_wp2_with (first | (go_at_call 57; refine (word_Wrap _ _).mono ?_; rintro e w' ⟨rfl, rfl⟩))
  go_ret
  exact ⟨ret_int (by rw [wd_xor]; rfl), rfl⟩
theorem word_Shr (a n : Int) (w : World) : Calls Try.prog 67 #[.int .i64 a, .int .i64 n] w fun e w' => e = .returned (.int .i64 (wShr a n : Nat)) ∧ w = w' := by
  go_enter Try.func67, Try.ntmps67
  go_wp2_with (first | (go_at_call 57; refine (word_Wrap _ _).mono ?_; rintro e w' ⟨rfl, rfl⟩) | (go_at_call 74; refine (word_many _ _).mono ?_; rintro e w' ⟨rfl, rfl⟩))
  go_ret
  exact ⟨ret_int (by rw [min_sh, ediv_cast]; rfl), rfl⟩
theorem word_Shl (a n : Int) (w : World) : Calls Try.prog 66 #[.int .i64 a, .int .i64 n] w fun e w' => e = .returned (.int .i64 (wShl a n : Nat)) ∧ w = w' := by
  go_enter Try.func66, Try.ntmps66
  go_wp2_with (first | (go_at_call 57; refine (word_Wrap _ _).mono ?_; rintro e w' ⟨rfl, rfl⟩) | (go_at_call 74; refine (word_many _ _).mono ?_; rintro e w' ⟨rfl, rfl⟩))
  go_ret
  exact ⟨ret_int (by rw [min_sh, wd_wrap64, pow_cast, ← Int.natCast_mul]; unfold wShl wd; generalize (a % 4294967296).toNat * 2 ^ sh n = x; omega), rfl⟩
theorem word_mask (a : Bool) (w : World) : Calls Try.prog 75 #[.bool a] w fun e w' => e = .returned (.int .i64 (wMask a : Nat)) ∧ w = w' := by
  cases a
  all_goals
    go_enter Try.func75, Try.ntmps75
    go_wp2
  all_goals go_ret
  all_goals exact ⟨rfl, rfl⟩
theorem word_Less (a b : Int) (w : World) : Calls Try.prog 69 #[.int .i64 a, .int .i64 b] w fun e w' => e = .returned (.int .i64 (wLess a b : Nat)) ∧ w = w' := by
  go_enter Try.func69, Try.ntmps69
  go_wp2_with (first | (go_at_call 57; refine (word_Wrap _ _).mono ?_; rintro e w' ⟨rfl, rfl⟩) | (go_at_call 75; refine (word_mask _ _).mono ?_; rintro e w' ⟨rfl, rfl⟩))
  go_ret
  exact ⟨rfl, rfl⟩
theorem word_Same (a b : Int) (w : World) : Calls Try.prog 70 #[.int .i64 a, .int .i64 b] w fun e w' => e = .returned (.int .i64 (wSame a b : Nat)) ∧ w = w' := by
  go_enter Try.func70, Try.ntmps70
  go_wp2_with (first | (go_at_call 57; refine (word_Wrap _ _).mono ?_; rintro e w' ⟨rfl, rfl⟩) | (go_at_call 75; refine (word_mask _ _).mono ?_; rintro e w' ⟨rfl, rfl⟩))
  go_ret
  exact ⟨ret_int (by rw [beq_cast]; rfl), rfl⟩
theorem word_Carry (a b : Int) (w : World) : Calls Try.prog 71 #[.int .i64 a, .int .i64 b] w fun e w' => e = .returned (.int .i64 (wCarry a b : Nat)) ∧ w = w' := by
  go_enter Try.func71, Try.ntmps71
  go_wp2_with (first | (go_at_call 57; refine (word_Wrap _ _).mono ?_; rintro e w' ⟨rfl, rfl⟩))
  go_ret
  exact ⟨ret_int (by have h1 := wd_lt a; have h2 := wd_lt b; unfold wCarry; rw [wrap64_small _ (by omega) (by omega)]; omega), rfl⟩
theorem word_Ror (a n : Int) (w : World) : Calls Try.prog 68 #[.int .i64 a, .int .i64 n] w fun e w' => e = .returned (.int .i64 (wRor a n : Nat)) ∧ w = w' := by
  have h1 : ((sh n : Nat) : Int) ≤ 31 := by have := sh_lt n; omega
  go_enter Try.func68, Try.ntmps68
  go_wp2_with (first | (go_at_call 57; refine (word_Wrap _ _).mono ?_; rintro e w' ⟨rfl, rfl⟩) | (go_at_call 74; refine (word_many _ _).mono ?_; rintro e w' ⟨rfl, rfl⟩) | (go_at_call 67; refine (word_Shr _ _ _).mono ?_; rintro e w' ⟨rfl, rfl⟩) | (go_at_call 63; refine (word_Or _ _ _).mono ?_; rintro e w' ⟨rfl, rfl⟩))
  go_ret
  exact ⟨ret_int (by unfold wOr wShr; rw [wd_nat _ (Nat.lt_of_le_of_lt (Nat.div_le_self _ _) (wd_lt a)), wd_wd, wd_wrap64, pow_cast, ← Int.natCast_mul, wd_castmod, ror_nat _ _ (wd_lt a) (sh_lt n)]; rfl), rfl⟩
theorem word_Select (m a b : Int) (w : World) : Calls Try.prog 72 #[.int .i64 m, .int .i64 a, .int .i64 b] w fun e w' => e = .returned (.int .i64 (wSelect m a b : Nat)) ∧ w = w' := by
  go_enter Try.func72, Try.ntmps72
  go_wp2_with (first | (go_at_call 63; refine (word_Or _ _ _).mono ?_; rintro e w' ⟨rfl, rfl⟩))
  go_ret
  exact ⟨ret_int (by unfold wOr wSelect; rw [wd_and, wd_andNot, ones_xor _ (wd_lt m)]), rfl⟩
end Go.Proofs.Ythkobddggoojlaa
namespace Go.Proofs.Ythkobddggoojlaa
open Go.RowKit

theorem wrap64_nat (x : Nat) (h : x < 9223372036854775808) : wrap64 (x : Int) = (x : Nat) := wrap64_small _ (by omega) (by omega)
end Go.Proofs.Ythkobddggoojlaa
namespace Go.Proofs.Ythkobddggoojlaa
open Go.RowKit

theorem two (x : Nat) (h : x < 2) : x = 0 ∨ x = 1 := by omega
end Go.Proofs.Ythkobddggoojlaa
