/- Parts of a proof, joined. No condition but those that each theorem names. -/
import Derived.WalkKit
import Derived.ProofKit
import Derived.Test.YtfadeipdepamlaaProg
import Derived.OpenShut
import Derived.Lib.Hide
import Derived.Test.YtfadeipdepamlaaSdG0e3
namespace Go.Proofs.Ytfadeipdepamlaa
open Go.RowKit

/-- A number of bits. -/
def sh (n : Int) : Nat := (n % 32).toNat
theorem sh_lt (n : Int) : sh n < 32 := by unfold sh; omega
theorem sh_cast (n : Int) : ((sh n : Nat) : Int) = n % 32 := by unfold sh; omega
def wAdd (a b : Int) : Nat := wd (a + b)
def wSub (a b : Int) : Nat := wd (a - b)
def wMul (a b : Int) : Nat := wd a * wd b % 4294967296
def wHigh (a b : Int) : Nat := wd a * wd b / 4294967296
def wCarry (a b : Int) : Nat := (wd a + wd b) / 4294967296
def wNot (a : Int) : Nat := 4294967295 - wd a
def wAnd (a b : Int) : Nat := wd a &&& wd b
def wOr (a b : Int) : Nat := wd a ||| wd b
def wXor (a b : Int) : Nat := wd a ^^^ wd b
def wSelect (m a b : Int) : Nat := (wd a &&& wd m) ||| (wd b &&& (4294967295 - wd m))
def wShl (a n : Int) : Nat := wd a * 2 ^ sh n % 4294967296
def wShr (a n : Int) : Nat := wd a / 2 ^ sh n
def wRor (a n : Int) : Nat := wd a / 2 ^ sh n + wd a % 2 ^ sh n * 2 ^ (32 - sh n)
def wMask (b : Bool) : Nat := if b then 4294967295 else 0
def wLess (a b : Int) : Nat := wMask (decide (wd a < wd b))
def wSame (a b : Int) : Nat := wMask (decide (wd a = wd b))
def wBit (a n : Int) : Nat := wd a / 2 ^ sh n % 2
theorem ret_int {k : IntKind} {a b : Int} (h : a = b) : Ending.returned (.int k a) = .returned (.int k b) := by rw [h]

theorem word_Wrap (n : Int) (w : World) : Calls Try.prog 81 #[.int .i64 n] w fun e w' => e = .returned (.int .i64 (wd n : Nat)) ∧ w = w' := by
  go_enter Try.func81, Try.ntmps81
  go_wp2
  go_ret
  exact ⟨ret_int (by rw [and_ones, wd_cast]), rfl⟩
theorem word_many (n : Int) (w : World) : Calls Try.prog 99 #[.int .i64 n] w fun e w' => e = .returned (.int .i64 (sh n : Nat)) ∧ w = w' := by
  go_enter Try.func99, Try.ntmps99
  go_wp2
  go_ret
  exact ⟨ret_int (by rw [and_31, sh_cast]), rfl⟩
theorem word_Add (a b : Int) (w : World) : Calls Try.prog 82 #[.int .i64 a, .int .i64 b] w fun e w' => e = .returned (.int .i64 (wAdd a b : Nat)) ∧ w = w' := by
  go_enter Try.func82, Try.ntmps82
  go_wp2_with (go_at_call 81; refine (word_Wrap _ _).mono ?_; rintro e w' ⟨rfl, rfl⟩)
  go_ret
  exact ⟨ret_int (by rw [wd_wrap64]; rfl), rfl⟩
theorem word_Sub (a b : Int) (w : World) : Calls Try.prog 83 #[.int .i64 a, .int .i64 b] w fun e w' => e = .returned (.int .i64 (wSub a b : Nat)) ∧ w = w' := by
  go_enter Try.func83, Try.ntmps83
  go_wp2_with (go_at_call 81; refine (word_Wrap _ _).mono ?_; rintro e w' ⟨rfl, rfl⟩)
  go_ret
  exact ⟨ret_int (by rw [wd_wrap64]; rfl), rfl⟩
theorem mul_lt (a b : Int) : wd a * wd b < 18446744073709551616 :=
  Nat.lt_of_le_of_lt (Nat.mul_le_mul (Nat.le_of_lt_succ (wd_lt a)) (Nat.le_of_lt_succ (wd_lt b))) (by decide)
theorem wrapu_wd (a : Int) : IntKind.u64.wrap ((wd a : Nat) : Int) = (wd a : Nat) := by
  rw [wrapu64]; have := wd_lt a; omega
theorem word_product (a b : Int) (w : World) : Calls Try.prog 98 #[.int .i64 a, .int .i64 b] w fun e w' => e = .returned (.int .u64 (wd a * wd b : Nat)) ∧ w = w' := by
  go_enter Try.func98, Try.ntmps98
  go_wp2_with (go_at_call 81; refine (word_Wrap _ _).mono ?_; rintro e w' ⟨rfl, rfl⟩)
  go_ret
  exact ⟨ret_int (by rw [wrapu_wd, wrapu_wd, wrapu64, ← Int.natCast_mul]; have h := mul_lt a b; generalize wd a * wd b = x at *; omega), rfl⟩
theorem pow_cast (k : Nat) : (2 : Int) ^ k = ((2 ^ k : Nat) : Int) := by rw [Int.natCast_pow]; rfl
theorem ediv_cast (x k : Nat) : (x : Int) / 2 ^ k = ((x / 2 ^ k : Nat) : Int) := by rw [pow_cast]; rfl
theorem beq_cast (a b : Nat) : ((a : Int) == (b : Int)) = decide (a = b) := by
  by_cases h : a = b
  · subst h; simp
  · have h' : ¬ (a : Int) = b := by omega
    simp [h, h']
theorem wd_castmod (x : Nat) : wd (x : Int) = x % 4294967296 := by unfold wd; omega
theorem ror_nat (x k : Nat) (hx : x < 4294967296) (hk : k < 32) : x / 2 ^ k ||| x * 2 ^ (32 - k) % 4294967296 = x / 2 ^ k + x % 2 ^ k * 2 ^ (32 - k) := by
  have e : (4294967296 : Nat) = 2 ^ k * 2 ^ (32 - k) := by rw [← Nat.pow_add, show k + (32 - k) = 32 by omega]
  have h1 : x * 2 ^ (32 - k) % 4294967296 = x % 2 ^ k * 2 ^ (32 - k) := by rw [e, Nat.mul_mod_mul_right]
  rw [h1, Nat.or_comm, nat_join (32 - k) _ _ (Nat.mul_mod_left _ _) (Nat.div_lt_of_lt_mul (by rw [← e]; exact hx)), Nat.add_comm]
theorem min_sh (n : Int) : min (sh n) 64 = sh n := by have := sh_lt n; omega
theorem pow_sh (n : Int) : 2 ^ sh n ≤ 2147483648 := (Nat.pow_le_pow_right (by decide) (by have := sh_lt n; omega) : 2 ^ sh n ≤ 2 ^ 31)
theorem word_Mul (a b : Int) (w : World) : Calls Try.prog 84 #[.int .i64 a, .int .i64 b] w fun e w' => e = .returned (.int .i64 (wMul a b : Nat)) ∧ w = w' := by
  go_enter Try.func84, Try.ntmps84
  go_wp2_with (first | (go_at_call 98; refine (word_product _ _ _).mono ?_; rintro e w' ⟨rfl, rfl⟩))
  go_ret
  exact ⟨ret_int (by rw [← Int.natCast_mul]; unfold wMul; generalize wd a * wd b = x; rw [uand_ones, wrap64_small _ (by omega) (by omega)]; omega), rfl⟩
theorem word_High (a b : Int) (w : World) : Calls Try.prog 85 #[.int .i64 a, .int .i64 b] w fun e w' => e = .returned (.int .i64 (wHigh a b : Nat)) ∧ w = w' := by
  go_enter Try.func85, Try.ntmps85
  go_wp2_with (first | (go_at_call 98; refine (word_product _ _ _).mono ?_; rintro e w' ⟨rfl, rfl⟩))
  go_ret
  exact ⟨ret_int (by have h := mul_lt a b; rw [← Int.natCast_mul]; unfold wHigh; generalize wd a * wd b = x at *; rw [wrap64_small _ (by omega) (by omega)]; omega), rfl⟩
theorem word_Not (a : Int) (w : World) : Calls Try.prog 89 #[.int .i64 a] w fun e w' => e = .returned (.int .i64 (wNot a : Nat)) ∧ w = w' := by
  go_enter Try.func89, Try.ntmps89
  go_wp2_with (first | (go_at_call 81; refine (word_Wrap _ _).mono ?_; rintro e w' ⟨rfl, rfl⟩))
  all_goals go_ret
  all_goals exact ⟨ret_int (by rw [wd_not, ones_xor _ (wd_lt a)]; rfl), rfl⟩
theorem word_And (a b : Int) (w : World) : Calls Try.prog 86 #[.int .i64 a, .int .i64 b] w fun e w' => e = .returned (.int .i64 (wAnd a b : Nat)) ∧ w = w' := by
  go_enter Try.func86, Try.ntmps86
  go_wp2_with (first | (go_at_call 81; refine (word_Wrap _ _).mono ?_; rintro e w' ⟨rfl, rfl⟩))
  go_ret
  exact ⟨ret_int (by rw [wd_and]; rfl), rfl⟩
theorem word_Or (a b : Int) (w : World) : Calls Try.prog 87 #[.int .i64 a, .int .i64 b] w fun e w' => e = .returned (.int .i64 (wOr a b : Nat)) ∧ w = w' := by
  go_enter Try.func87, Try.ntmps87
  go_wp2_with (first | (go_at_call 81; refine (word_Wrap _ _).mono ?_; rintro e w' ⟨rfl, rfl⟩))
  go_ret
  exact ⟨ret_int (by rw [wd_or]; rfl), rfl⟩
theorem word_Xor (a b : Int) (w : World) : Calls Try.prog 88 #[.int .i64 a, .int .i64 b] w fun e w' => e = .returned (.int .i64 (wXor a b : Nat)) ∧ w = w' := by
  go_enter Try.func88, Try.ntmps88
  go_wp2_with (first | (go_at_call 81; refine (word_Wrap _ _).mono ?_; rintro e w' ⟨rfl, rfl⟩))
  go_ret
  exact ⟨ret_int (by rw [wd_xor]; rfl), rfl⟩
theorem word_Shr (a n : Int) (w : World) : Calls Try.prog 91 #[.int .i64 a, .int .i64 n] w fun e w' => e = .returned (.int .i64 (wShr a n : Nat)) ∧ w = w' := by
  go_enter Try.func91, Try.ntmps91
  go_wp2_with (first | (go_at_call 81; refine (word_Wrap _ _).mono ?_; rintro e w' ⟨rfl, rfl⟩) | (go_at_call 99; refine (word_many _ _).mono ?_; rintro e w' ⟨rfl, rfl⟩))
  go_ret
  exact ⟨ret_int (by rw [min_sh, ediv_cast]; rfl), rfl⟩
theorem word_Shl (a n : Int) (w : World) : Calls Try.prog 90 #[.int .i64 a, .int .i64 n] w fun e w' => e = .returned (.int .i64 (wShl a n : Nat)) ∧ w = w' := by
  go_enter Try.func90, Try.ntmps90
  go_wp2_with (first | (go_at_call 81; refine (word_Wrap _ _).mono ?_; rintro e w' ⟨rfl, rfl⟩) | (go_at_call 99; refine (word_many _ _).mono ?_; rintro e w' ⟨rfl, rfl⟩))
  go_ret
  exact ⟨ret_int (by rw [min_sh, wd_wrap64, pow_cast, ← Int.natCast_mul]; unfold wShl wd; generalize (a % 4294967296).toNat * 2 ^ sh n = x; omega), rfl⟩
theorem word_mask (a : Bool) (w : World) : Calls Try.prog 100 #[.bool a] w fun e w' => e = .returned (.int .i64 (wMask a : Nat)) ∧ w = w' := by
  cases a
  all_goals
    go_enter Try.func100, Try.ntmps100
    go_wp2
  all_goals go_ret
  all_goals exact ⟨rfl, rfl⟩
theorem word_Less (a b : Int) (w : World) : Calls Try.prog 93 #[.int .i64 a, .int .i64 b] w fun e w' => e = .returned (.int .i64 (wLess a b : Nat)) ∧ w = w' := by
  go_enter Try.func93, Try.ntmps93
  go_wp2_with (first | (go_at_call 81; refine (word_Wrap _ _).mono ?_; rintro e w' ⟨rfl, rfl⟩) | (go_at_call 100; refine (word_mask _ _).mono ?_; rintro e w' ⟨rfl, rfl⟩))
  go_ret
  exact ⟨rfl, rfl⟩
theorem word_Same (a b : Int) (w : World) : Calls Try.prog 94 #[.int .i64 a, .int .i64 b] w fun e w' => e = .returned (.int .i64 (wSame a b : Nat)) ∧ w = w' := by
  go_enter Try.func94, Try.ntmps94
  go_wp2_with (first | (go_at_call 81; refine (word_Wrap _ _).mono ?_; rintro e w' ⟨rfl, rfl⟩) | (go_at_call 100; refine (word_mask _ _).mono ?_; rintro e w' ⟨rfl, rfl⟩))
  go_ret
  exact ⟨ret_int (by rw [beq_cast]; rfl), rfl⟩
theorem word_Carry (a b : Int) (w : World) : Calls Try.prog 95 #[.int .i64 a, .int .i64 b] w fun e w' => e = .returned (.int .i64 (wCarry a b : Nat)) ∧ w = w' := by
  go_enter Try.func95, Try.ntmps95
  go_wp2_with (first | (go_at_call 81; refine (word_Wrap _ _).mono ?_; rintro e w' ⟨rfl, rfl⟩))
  go_ret
  exact ⟨ret_int (by have h1 := wd_lt a; have h2 := wd_lt b; unfold wCarry; rw [wrap64_small _ (by omega) (by omega)]; omega), rfl⟩
theorem word_Ror (a n : Int) (w : World) : Calls Try.prog 92 #[.int .i64 a, .int .i64 n] w fun e w' => e = .returned (.int .i64 (wRor a n : Nat)) ∧ w = w' := by
  have h1 : ((sh n : Nat) : Int) ≤ 31 := by have := sh_lt n; omega
  go_enter Try.func92, Try.ntmps92
  go_wp2_with (first | (go_at_call 81; refine (word_Wrap _ _).mono ?_; rintro e w' ⟨rfl, rfl⟩) | (go_at_call 99; refine (word_many _ _).mono ?_; rintro e w' ⟨rfl, rfl⟩) | (go_at_call 91; refine (word_Shr _ _ _).mono ?_; rintro e w' ⟨rfl, rfl⟩) | (go_at_call 87; refine (word_Or _ _ _).mono ?_; rintro e w' ⟨rfl, rfl⟩))
  go_ret
  exact ⟨ret_int (by unfold wOr wShr; rw [wd_nat _ (Nat.lt_of_le_of_lt (Nat.div_le_self _ _) (wd_lt a)), wd_wd, wd_wrap64, pow_cast, ← Int.natCast_mul, wd_castmod, ror_nat _ _ (wd_lt a) (sh_lt n)]; rfl), rfl⟩
theorem word_Select (m a b : Int) (w : World) : Calls Try.prog 96 #[.int .i64 m, .int .i64 a, .int .i64 b] w fun e w' => e = .returned (.int .i64 (wSelect m a b : Nat)) ∧ w = w' := by
  go_enter Try.func96, Try.ntmps96
  go_wp2_with (first | (go_at_call 87; refine (word_Or _ _ _).mono ?_; rintro e w' ⟨rfl, rfl⟩))
  go_ret
  exact ⟨ret_int (by unfold wOr wSelect; rw [wd_and, wd_andNot, ones_xor _ (wd_lt m)]), rfl⟩
end Go.Proofs.Ytfadeipdepamlaa
namespace Go.Proofs.Ytfadeipdepamlaa
open Go.RowKit

theorem u64_tmod (n k : Int) : (IntKind.u64.wrap n).tmod k = (n % 18446744073709551616) % k := by
  rw [wrapu64, Int.tmod_eq_emod_of_nonneg (by omega)]
theorem u64_tdiv (n k : Int) : (IntKind.u64.wrap n).tdiv k = (n % 18446744073709551616) / k := by
  rw [wrapu64, Int.tdiv_eq_ediv_of_nonneg (by omega)]
theorem uprod (a b : Int) : IntKind.u64.wrap ((wd a : Nat) : Int) * IntKind.u64.wrap ((wd b : Nat) : Int) = ((wd a * wd b : Nat) : Int) := by
  rw [wrapu_wd, wrapu_wd, Int.natCast_mul]
def pw (k : Nat) : Nat := 2 ^ k
theorem pw_pos (k : Nat) : 0 < pw k := Nat.pow_pos (by decide)
theorem pw_sh (n : Int) : pw (sh n) ≤ 2147483648 := pow_sh n
/-- A bit of a natural number, as a number. -/
theorem bit_test (x i : Nat) : x / 2 ^ i % 2 = (x.testBit i).toNat := by rw [Nat.toNat_testBit]
/-- The upper bits of a number, with one bit more. -/
theorem bit_join (f i : Nat) : 2 * (f / 2 ^ (i + 1)) + f / 2 ^ i % 2 = f / 2 ^ i := by
  rw [Nat.pow_succ, ← Nat.div_div_eq_div_mul]; omega
theorem sh_nat (i : Nat) (h : i < 32) : sh (i : Int) = i := by unfold sh; omega
theorem wBit_nat (a : Int) (i : Nat) (h : i < 32) : wBit a (i : Int) = wd a / 2 ^ i % 2 := by unfold wBit; rw [sh_nat i h]
theorem wBit_two (a n : Int) : wBit a n < 2 := by unfold wBit; omega
theorem ref_Wrap (n : Int) (w : World) : Calls Try.prog 58 #[.int .i64 n] w fun e w' => e = .returned (.int .i64 (wd n : Nat)) ∧ w = w' := by
  go_enter Try.func58, Try.ntmps58
  go_wp2
  go_ret
  exact ⟨ret_int (by rw [u64_tmod]; unfold wd wrap64; omega), rfl⟩
theorem ref_many (n : Int) (w : World) : Calls Try.prog 80 #[.int .i64 n] w fun e w' => e = .returned (.int .i64 (sh n : Nat)) ∧ w = w' := by
  go_enter Try.func80, Try.ntmps80
  go_wp2
  go_ret
  exact ⟨ret_int (by rw [u64_tmod]; unfold sh wrap64; omega), rfl⟩
theorem ref_Add (a b : Int) (w : World) : Calls Try.prog 59 #[.int .i64 a, .int .i64 b] w fun e w' => e = .returned (.int .i64 (wAdd a b : Nat)) ∧ w = w' := by
  go_enter Try.func59, Try.ntmps59
  go_wp2_with (first | (go_at_call 58; refine (ref_Wrap _ _).mono ?_; rintro e w' ⟨rfl, rfl⟩))
  go_ret
  exact ⟨ret_int (by have h1 := wd_lt a; have h2 := wd_lt b; rw [wrap64_small _ (by omega) (by omega)]; unfold wAdd wd; omega), rfl⟩
theorem ref_Sub (a b : Int) (w : World) : Calls Try.prog 60 #[.int .i64 a, .int .i64 b] w fun e w' => e = .returned (.int .i64 (wSub a b : Nat)) ∧ w = w' := by
  go_enter Try.func60, Try.ntmps60
  go_wp2_with (first | (go_at_call 58; refine (ref_Wrap _ _).mono ?_; rintro e w' ⟨rfl, rfl⟩))
  go_ret
  exact ⟨ret_int (by have h1 := wd_lt a; have h2 := wd_lt b; unfold wSub wd wrap64 at *; omega), rfl⟩
theorem ref_Mul (a b : Int) (w : World) : Calls Try.prog 61 #[.int .i64 a, .int .i64 b] w fun e w' => e = .returned (.int .i64 (wMul a b : Nat)) ∧ w = w' := by
  go_enter Try.func61, Try.ntmps61
  go_wp2_with (first | (go_at_call 58; refine (ref_Wrap _ _).mono ?_; rintro e w' ⟨rfl, rfl⟩))
  go_ret
  exact ⟨ret_int (by have h := mul_lt a b; rw [uprod, u64_tmod]; unfold wMul; generalize wd a * wd b = x at *; unfold wrap64; omega), rfl⟩
theorem ref_High (a b : Int) (w : World) : Calls Try.prog 62 #[.int .i64 a, .int .i64 b] w fun e w' => e = .returned (.int .i64 (wHigh a b : Nat)) ∧ w = w' := by
  go_enter Try.func62, Try.ntmps62
  go_wp2_with (first | (go_at_call 58; refine (ref_Wrap _ _).mono ?_; rintro e w' ⟨rfl, rfl⟩))
  go_ret
  exact ⟨ret_int (by have h := mul_lt a b; rw [uprod, u64_tdiv, wrapu64]; unfold wHigh; generalize wd a * wd b = x at *; unfold wrap64; omega), rfl⟩
theorem ref_Carry (a b : Int) (w : World) : Calls Try.prog 72 #[.int .i64 a, .int .i64 b] w fun e w' => e = .returned (.int .i64 (wCarry a b : Nat)) ∧ w = w' := by
  go_enter Try.func72, Try.ntmps72
  go_wp2_with (first | (go_at_call 58; refine (ref_Wrap _ _).mono ?_; rintro e w' ⟨rfl, rfl⟩))
  go_ret
  exact ⟨ret_int (by have h1 := wd_lt a; have h2 := wd_lt b; rw [wrap64_small (_ + _) (by omega) (by omega), Int.tdiv_eq_ediv_of_nonneg (by omega)]; unfold wCarry wrap64; omega), rfl⟩
theorem ref_Less (a b : Int) (w : World) : Calls Try.prog 70 #[.int .i64 a, .int .i64 b] w fun e w' => e = .returned (.int .i64 (wLess a b : Nat)) ∧ w = w' := by
  by_cases h : wd a < wd b
  all_goals
    go_enter Try.func70, Try.ntmps70
    go_wp2_with (first | (go_at_call 58; refine (ref_Wrap _ _).mono ?_; rintro e w' ⟨rfl, rfl⟩))
    go_ret
    exact ⟨ret_int (by simp [wLess, wMask, h]), rfl⟩
theorem ref_Same (a b : Int) (w : World) : Calls Try.prog 71 #[.int .i64 a, .int .i64 b] w fun e w' => e = .returned (.int .i64 (wSame a b : Nat)) ∧ w = w' := by
  by_cases h : wd a = wd b
  all_goals
    have h' := beq_cast (wd a) (wd b)
    simp only [h, decide_true, decide_false] at h'
    go_enter Try.func71, Try.ntmps71
    go_wp2_with (first | (go_at_call 58; refine (ref_Wrap _ _).mono ?_; rintro e w' ⟨rfl, rfl⟩))
    go_ret
    exact ⟨ret_int (by simp [wSame, wMask, h]), rfl⟩
theorem ref_power (k : Nat) (hk : k ≤ 62) (w : World) : Calls Try.prog 79 #[.int .i64 (k : Int)] w fun e w' => e = .returned (.int .i64 (pw k : Nat)) ∧ w = w' := by
  go_enter Try.func79, Try.ntmps79
  go_wp2
  go_loop [3, 4] (fun p i => ∃ j : Nat, j ≤ k ∧ i = .int .i64 j ∧ p = .int .i64 (2 ^ j : Nat)) (fun _ i => k - (intOf i).toNat)
  case atStart => exact ⟨0, Nat.zero_le _, rfl, rfl⟩
  case round =>
    obtain ⟨j, hj, rfl, rfl⟩ := hrel
    by_cases hlt : j < k
    · have hp : (2 ^ j : Nat) ≤ 2 ^ 61 := Nat.pow_le_pow_right (by decide) (by omega)
      have hs : (2 ^ (j + 1) : Nat) = 2 ^ j * 2 := Nat.pow_succ ..
      have hp' : (2 ^ j : Nat) ≤ 2305843009213693952 := hp
      clear hp
      have HS := Lib.hid hs
      clear hs
      generalize 2 ^ j = q at *
      go_wp2
      go_round
      case rel => exact ⟨j + 1, by omega, by go_num, by rw [HS.out]; go_num⟩
      case measure => simp [intOf]; omega
    · obtain rfl : j = k := by omega
      go_wp2
      go_ret
      exact ⟨rfl, rfl⟩
theorem wrap64_nat (x : Nat) (h : x < 9223372036854775808) : wrap64 (x : Int) = (x : Nat) := wrap64_small _ (by omega) (by omega)
theorem wdiv (a : Int) (q : Nat) : wrap64 (((wd a : Nat) : Int) / (q : Int)) = ((wd a / q : Nat) : Int) := by
  have h := Nat.lt_of_le_of_lt (Nat.div_le_self (wd a) q) (wd_lt a)
  rw [← Int.natCast_ediv, wrap64_nat _ (by omega)]
theorem ref_Bit (a n : Int) (w : World) : Calls Try.prog 97 #[.int .i64 a, .int .i64 n] w fun e w' => e = .returned (.int .i64 (wBit a n : Nat)) ∧ w = w' := by
  have h1 := pw_pos (sh n)
  go_enter Try.func97, Try.ntmps97
  go_wp2_with (first | (go_at_call 58; refine (ref_Wrap _ _).mono ?_; rintro e w' ⟨rfl, rfl⟩) | (go_at_call 80; refine (ref_many _ _).mono ?_; rintro e w' ⟨rfl, rfl⟩) | (go_at_call 79; refine (ref_power (sh _) (by have := sh_lt n; omega) _).mono ?_; rintro e w' ⟨rfl, rfl⟩))
  go_ret
  exact ⟨ret_int (by rw [wdiv, Int.tmod_eq_emod_of_nonneg (Int.natCast_nonneg _)]; rfl), rfl⟩
theorem ref_Shl (a n : Int) (w : World) : Calls Try.prog 67 #[.int .i64 a, .int .i64 n] w fun e w' => e = .returned (.int .i64 (wShl a n : Nat)) ∧ w = w' := by
  have h1 := pw_pos (sh n)
  go_enter Try.func67, Try.ntmps67
  go_wp2_with (first | (go_at_call 61; refine (ref_Mul _ _ _).mono ?_; rintro e w' ⟨rfl, rfl⟩) | (go_at_call 80; refine (ref_many _ _).mono ?_; rintro e w' ⟨rfl, rfl⟩) | (go_at_call 79; refine (ref_power (sh _) (by have := sh_lt n; omega) _).mono ?_; rintro e w' ⟨rfl, rfl⟩))
  go_ret
  exact ⟨ret_int (by unfold wMul wShl; rw [wd_nat (pw _) (Nat.lt_of_le_of_lt (pw_sh n) (by decide))]; rfl), rfl⟩
theorem ref_Shr (a n : Int) (w : World) : Calls Try.prog 68 #[.int .i64 a, .int .i64 n] w fun e w' => e = .returned (.int .i64 (wShr a n : Nat)) ∧ w = w' := by
  have h1 := pw_pos (sh n)
  go_enter Try.func68, Try.ntmps68
  go_wp2_with (first | (go_at_call 58; refine (ref_Wrap _ _).mono ?_; rintro e w' ⟨rfl, rfl⟩) | (go_at_call 80; refine (ref_many _ _).mono ?_; rintro e w' ⟨rfl, rfl⟩) | (go_at_call 79; refine (ref_power (sh _) (by have := sh_lt n; omega) _).mono ?_; rintro e w' ⟨rfl, rfl⟩))
  go_ret
  exact ⟨ret_int (by rw [wdiv]; rfl), rfl⟩
/-- One step of a turn. -/
def rorS (x j : Nat) : Nat := x / 2 ^ j + x % 2 ^ j * 2 ^ (32 - j)
theorem rorS_zero (x : Nat) : rorS x 0 = x := by unfold rorS; simp [Nat.mod_one]
theorem rorS_lt (x j : Nat) (hx : x < 4294967296) (hj : j ≤ 32) : rorS x j < 4294967296 := by
  unfold rorS
  have e : (4294967296 : Nat) = 2 ^ (32 - j) * 2 ^ j := by rw [← Nat.pow_add, show 32 - j + j = 32 by omega]
  have h1 : x / 2 ^ j < 2 ^ (32 - j) := Nat.div_lt_of_lt_mul (by rw [Nat.mul_comm, ← e]; exact hx)
  have h2 : x % 2 ^ j < 2 ^ j := Nat.mod_lt _ (Nat.pow_pos (by decide))
  have h3 : (x % 2 ^ j + 1) * 2 ^ (32 - j) ≤ 2 ^ j * 2 ^ (32 - j) := Nat.mul_le_mul_right _ h2
  rw [Nat.add_mul, Nat.mul_comm (2 ^ j), ← e] at h3
  omega
theorem rorS_succ (x j : Nat) (hj : j < 32) : rorS x (j + 1) = rorS x j / 2 + rorS x j % 2 * 2147483648 := by
  unfold rorS
  have e0 : 2 ^ (32 - j) = 2 * 2 ^ (31 - j) := by rw [show 32 - j = (31 - j) + 1 by omega, Nat.pow_succ, Nat.mul_comm]
  have e1 : 32 - (j + 1) = 31 - j := by omega
  have e2 : x / 2 ^ (j + 1) = x / 2 ^ j / 2 := by rw [Nat.pow_succ, Nat.div_div_eq_div_mul]
  have e3 : x % 2 ^ (j + 1) = x % 2 ^ j + 2 ^ j * (x / 2 ^ j % 2) := by rw [Nat.pow_succ, Nat.mod_mul]
  have e4 : 2 ^ j * 2 ^ (31 - j) = 2147483648 := by rw [← Nat.pow_add, show j + (31 - j) = 31 by omega]
  rw [e0, e1, e2, e3, Nat.add_mul, Nat.mul_comm (2 ^ j), Nat.mul_assoc, e4]
  have e5 : x % 2 ^ j * (2 * 2 ^ (31 - j)) = 2 * (x % 2 ^ j * 2 ^ (31 - j)) := by rw [← Nat.mul_assoc, Nat.mul_comm _ 2, Nat.mul_assoc]
  rw [e5]
  generalize x / 2 ^ j = u
  generalize x % 2 ^ j * 2 ^ (31 - j) = v
  omega
theorem ref_Ror (a n : Int) (w : World) : Calls Try.prog 69 #[.int .i64 a, .int .i64 n] w fun e w' => e = .returned (.int .i64 (wRor a n : Nat)) ∧ w = w' := by
  have hn := sh_lt n
  go_enter Try.func69, Try.ntmps69
  go_wp2_with (first | (go_at_call 58; refine (ref_Wrap _ _).mono ?_; rintro e w' ⟨rfl, rfl⟩) | (go_at_call 80; refine (ref_many _ _).mono ?_; rintro e w' ⟨rfl, rfl⟩))
  go_loop [5, 6] (fun p i => ∃ j : Nat, j ≤ sh n ∧ i = .int .i64 j ∧ p = .int .i64 (rorS (wd a) j : Nat)) (fun _ i => sh n - (intOf i).toNat)
  case atStart => exact ⟨0, Nat.zero_le _, rfl, by rw [rorS_zero (wd a)]⟩
  case round =>
    obtain ⟨j, hj, rfl, rfl⟩ := hrel
    by_cases hlt : j < sh n
    · have hp := rorS_lt (wd a) j (wd_lt a) (by omega)
      have HS := Lib.hid (rorS_succ (wd a) j (by omega))
      generalize rorS (wd a) j = q at *
      go_wp2_with (first | (go_at_call 58; refine (ref_Wrap _ _).mono ?_; rintro e w' ⟨rfl, rfl⟩) | (go_at_call 80; refine (ref_many _ _).mono ?_; rintro e w' ⟨rfl, rfl⟩))
      go_round
      case rel => exact ⟨j + 1, by omega, by go_num, by rw [HS.out]; exact congrArg (Value.int .i64) (by omega)⟩
      case measure => simp [intOf]; omega
    · obtain rfl : j = sh n := by omega
      go_wp2_with (first | (go_at_call 58; refine (ref_Wrap _ _).mono ?_; rintro e w' ⟨rfl, rfl⟩) | (go_at_call 80; refine (ref_many _ _).mono ?_; rintro e w' ⟨rfl, rfl⟩))
      go_ret
      exact ⟨rfl, rfl⟩
end Go.Proofs.Ytfadeipdepamlaa
namespace Go.Proofs.Ytfadeipdepamlaa
open Go.RowKit

theorem bit_le (x i : Nat) : x / 2 ^ i % 2 < 2 := by omega
theorem not_bit (x i : Nat) (hx : x < 4294967296) (hi : i < 32) : (4294967295 - x) / 2 ^ i % 2 = 1 - x / 2 ^ i % 2 := by
  have e : (4294967295 - x).testBit i = !x.testBit i := by
    have := Nat.testBit_two_pow_sub_succ (n := 32) hx i
    rw [show 2 ^ 32 - (x + 1) = 4294967295 - x from by omega] at this
    rw [this]; simp [hi]
  rw [bit_test, bit_test, e]; cases x.testBit i <;> rfl
theorem and_bit (x y i : Nat) : (x &&& y) / 2 ^ i % 2 = x / 2 ^ i % 2 * (y / 2 ^ i % 2) := by
  rw [bit_test, bit_test, bit_test, Nat.testBit_and]; cases x.testBit i <;> cases y.testBit i <;> rfl
theorem or_bit (x y i : Nat) : (x ||| y) / 2 ^ i % 2 = max (x / 2 ^ i % 2) (y / 2 ^ i % 2) := by
  rw [bit_test, bit_test, bit_test, Nat.testBit_or]; cases x.testBit i <;> cases y.testBit i <;> rfl
theorem xor_bit (x y i : Nat) : (x ^^^ y) / 2 ^ i % 2 = (x / 2 ^ i % 2 + y / 2 ^ i % 2) % 2 := by
  rw [bit_test, bit_test, bit_test, Nat.testBit_xor]; cases x.testBit i <;> cases y.testBit i <;> rfl
theorem sel_bit (m x y i : Nat) (hm : m < 4294967296) (hi : i < 32) : ((x &&& m) ||| (y &&& (4294967295 - m))) / 2 ^ i % 2 = if m / 2 ^ i % 2 = 1 then x / 2 ^ i % 2 else y / 2 ^ i % 2 := by
  rw [or_bit, and_bit, and_bit, not_bit m i hm hi]
  have h1 := bit_le m i
  have h2 := bit_le x i
  have h3 := bit_le y i
  generalize m / 2 ^ i % 2 = u at *
  generalize x / 2 ^ i % 2 = v at *
  generalize y / 2 ^ i % 2 = t at *
  have : u = 0 ∨ u = 1 := by omega
  rcases this with rfl | rfl <;> simp
theorem three_step (f r : Nat) (X : Int) (hf : f < 4294967296) (hX : X = ((f / 2 ^ r % 2 : Nat) : Int)) : Value.int .i64 (wrap64 (wrap64 (2 * ((f : Int) / 2 ^ (r + 1))) + X)) = .int .i64 ((f / 2 ^ r : Nat) : Int) := by
  have h1 := bit_join f r
  have h2 := Nat.lt_of_le_of_lt (Nat.div_le_self f (2 ^ (r + 1))) hf
  rw [hX, ediv_cast]
  generalize f / 2 ^ (r + 1) = x at *
  generalize f / 2 ^ r = y at *
  refine congrArg _ ?_
  unfold wrap64; omega
theorem two (x : Nat) (h : x < 2) : x = 0 ∨ x = 1 := by omega
theorem top_zero (f : Nat) (h : f < 4294967296) : f / 2 ^ 32 = 0 := Nat.div_eq_of_lt h
theorem ref_three0 (m a b : Int) (w : World) : Calls Try.prog 78 #[.int .i64 m, .int .i64 a, .int .i64 b, .int .i64 0] w fun e w' => e = .returned (.int .i64 (wNot a : Nat)) ∧ w = w' := by
  have hf : wNot a < 4294967296 := by have := wd_lt a; unfold wNot; omega
  go_enter Try.func78, Try.ntmps78
  go_wp2
  go_loop [9, 10] (fun p i => ∃ r : Nat, r ≤ 32 ∧ i = .int .i64 ((r : Int) - 1) ∧ p = .int .i64 (wNot a / 2 ^ r : Nat)) (fun _ i => (intOf i + 1).toNat)
  case atStart => exact ⟨32, by omega, rfl, by rw [top_zero _ hf]; rfl⟩
  case round =>
    obtain ⟨r, hr, rfl, rfl⟩ := hrel
    rcases r with _ | r
    · rw [show (((0 : Nat) : Int) - 1) = -1 from rfl]
      go_wp2
      go_ret
      exact ⟨ret_int (by simp), rfl⟩
    · rw [show ((((r + 1 : Nat)) : Int) - 1) = (r : Int) from by omega]
      have hr' : r < 32 := by omega
      have HB := Lib.hid (not_bit (wd a) r (wd_lt a) (by omega))
      have ha := wBit_two a r
      have hb := wBit_two b r
      have HA := Lib.hid (wBit_nat a r (by omega))
      have HC := Lib.hid (wBit_nat b r (by omega))
      have HM := Lib.hid (wBit_nat m r (by omega))
      have HF := Lib.hid hf
      clear hf
      go_wp2_with (first | (go_at_call 97; refine (ref_Bit _ _ _).mono ?_; rintro e w' ⟨rfl, rfl⟩))
      go_round
      case rel => exact ⟨r, by omega, rfl, three_step _ _ _ HF.out (by unfold wNot; rw [HB.out, ← HA.out]; omega)⟩
      case measure => simp [intOf]
theorem ref_three1 (m a b : Int) (w : World) : Calls Try.prog 78 #[.int .i64 m, .int .i64 a, .int .i64 b, .int .i64 1] w fun e w' => e = .returned (.int .i64 (wAnd a b : Nat)) ∧ w = w' := by
  have hf : wAnd a b < 4294967296 := Nat.lt_of_le_of_lt Nat.and_le_left (wd_lt a)
  go_enter Try.func78, Try.ntmps78
  go_wp2
  go_loop [9, 10] (fun p i => ∃ r : Nat, r ≤ 32 ∧ i = .int .i64 ((r : Int) - 1) ∧ p = .int .i64 (wAnd a b / 2 ^ r : Nat)) (fun _ i => (intOf i + 1).toNat)
  case atStart => exact ⟨32, by omega, rfl, by rw [top_zero _ hf]; rfl⟩
  case round =>
    obtain ⟨r, hr, rfl, rfl⟩ := hrel
    rcases r with _ | r
    · rw [show (((0 : Nat) : Int) - 1) = -1 from rfl]
      go_wp2
      go_ret
      exact ⟨ret_int (by simp), rfl⟩
    · rw [show ((((r + 1 : Nat)) : Int) - 1) = (r : Int) from by omega]
      have hr' : r < 32 := by omega
      have HB := Lib.hid (and_bit (wd a) (wd b) r)
      have ha := wBit_two a r
      have hb := wBit_two b r
      have HA := Lib.hid (wBit_nat a r (by omega))
      have HC := Lib.hid (wBit_nat b r (by omega))
      have HM := Lib.hid (wBit_nat m r (by omega))
      have HF := Lib.hid hf
      clear hf
      go_wp2_with (first | (go_at_call 97; refine (ref_Bit _ _ _).mono ?_; rintro e w' ⟨rfl, rfl⟩))
      go_round
      case rel => exact ⟨r, by omega, rfl, three_step _ _ _ HF.out (by unfold wAnd; rw [HB.out, ← HA.out, ← HC.out]; rcases two _ ha with h | h <;> rcases two _ hb with h' | h' <;> rw [h, h'] <;> simp [wrap64])⟩
      case measure => simp [intOf]
theorem ref_three2 (m a b : Int) (w : World) : Calls Try.prog 78 #[.int .i64 m, .int .i64 a, .int .i64 b, .int .i64 2] w fun e w' => e = .returned (.int .i64 (wOr a b : Nat)) ∧ w = w' := by
  have hf : wOr a b < 4294967296 := Nat.or_lt_two_pow (n := 32) (wd_lt a) (wd_lt b)
  go_enter Try.func78, Try.ntmps78
  go_wp2
  go_loop [9, 10] (fun p i => ∃ r : Nat, r ≤ 32 ∧ i = .int .i64 ((r : Int) - 1) ∧ p = .int .i64 (wOr a b / 2 ^ r : Nat)) (fun _ i => (intOf i + 1).toNat)
  case atStart => exact ⟨32, by omega, rfl, by rw [top_zero _ hf]; rfl⟩
  case round =>
    obtain ⟨r, hr, rfl, rfl⟩ := hrel
    rcases r with _ | r
    · rw [show (((0 : Nat) : Int) - 1) = -1 from rfl]
      go_wp2
      go_ret
      exact ⟨ret_int (by simp), rfl⟩
    · rw [show ((((r + 1 : Nat)) : Int) - 1) = (r : Int) from by omega]
      have hr' : r < 32 := by omega
      have HB := Lib.hid (or_bit (wd a) (wd b) r)
      have ha := wBit_two a r
      have hb := wBit_two b r
      have HA := Lib.hid (wBit_nat a r (by omega))
      have HC := Lib.hid (wBit_nat b r (by omega))
      have HM := Lib.hid (wBit_nat m r (by omega))
      have HF := Lib.hid hf
      clear hf
      go_wp2_with (first | (go_at_call 97; refine (ref_Bit _ _ _).mono ?_; rintro e w' ⟨rfl, rfl⟩))
      go_round
      case rel => exact ⟨r, by omega, rfl, three_step _ _ _ HF.out (by unfold wOr; rw [HB.out, ← HA.out, ← HC.out]; rcases two _ ha with h | h <;> rcases two _ hb with h' | h' <;> rw [h, h'] <;> simp)⟩
      case measure => simp [intOf]
theorem ref_three3 (m a b : Int) (w : World) : Calls Try.prog 78 #[.int .i64 m, .int .i64 a, .int .i64 b, .int .i64 3] w fun e w' => e = .returned (.int .i64 (wXor a b : Nat)) ∧ w = w' := by
  have hf : wXor a b < 4294967296 := Nat.xor_lt_two_pow (n := 32) (wd_lt a) (wd_lt b)
  go_enter Try.func78, Try.ntmps78
  go_wp2
  go_loop [9, 10] (fun p i => ∃ r : Nat, r ≤ 32 ∧ i = .int .i64 ((r : Int) - 1) ∧ p = .int .i64 (wXor a b / 2 ^ r : Nat)) (fun _ i => (intOf i + 1).toNat)
  case atStart => exact ⟨32, by omega, rfl, by rw [top_zero _ hf]; rfl⟩
  case round =>
    obtain ⟨r, hr, rfl, rfl⟩ := hrel
    rcases r with _ | r
    · rw [show (((0 : Nat) : Int) - 1) = -1 from rfl]
      go_wp2
      go_ret
      exact ⟨ret_int (by simp), rfl⟩
    · rw [show ((((r + 1 : Nat)) : Int) - 1) = (r : Int) from by omega]
      have hr' : r < 32 := by omega
      have HB := Lib.hid (xor_bit (wd a) (wd b) r)
      have ha := wBit_two a r
      have hb := wBit_two b r
      have HA := Lib.hid (wBit_nat a r (by omega))
      have HC := Lib.hid (wBit_nat b r (by omega))
      have HM := Lib.hid (wBit_nat m r (by omega))
      have HF := Lib.hid hf
      clear hf
      go_wp2_with (first | (go_at_call 97; refine (ref_Bit _ _ _).mono ?_; rintro e w' ⟨rfl, rfl⟩))
      go_round
      case rel => exact ⟨r, by omega, rfl, three_step _ _ _ HF.out (by unfold wXor; rw [HB.out, ← HA.out, ← HC.out]; rcases two _ ha with h | h <;> rcases two _ hb with h' | h' <;> rw [h, h'] <;> simp)⟩
      case measure => simp [intOf]
theorem ref_three4 (m a b : Int) (w : World) : Calls Try.prog 78 #[.int .i64 m, .int .i64 a, .int .i64 b, .int .i64 4] w fun e w' => e = .returned (.int .i64 (wSelect m a b : Nat)) ∧ w = w' := by
  have hf : wSelect m a b < 4294967296 := Nat.or_lt_two_pow (n := 32) (Nat.lt_of_le_of_lt Nat.and_le_left (wd_lt a)) (Nat.lt_of_le_of_lt Nat.and_le_left (wd_lt b))
  go_enter Try.func78, Try.ntmps78
  go_wp2
  go_loop [9, 10] (fun p i => ∃ r : Nat, r ≤ 32 ∧ i = .int .i64 ((r : Int) - 1) ∧ p = .int .i64 (wSelect m a b / 2 ^ r : Nat)) (fun _ i => (intOf i + 1).toNat)
  case atStart => exact ⟨32, by omega, rfl, by rw [top_zero _ hf]; rfl⟩
  case round =>
    obtain ⟨r, hr, rfl, rfl⟩ := hrel
    rcases r with _ | r
    · rw [show (((0 : Nat) : Int) - 1) = -1 from rfl]
      go_wp2
      go_ret
      exact ⟨ret_int (by simp), rfl⟩
    · rw [show ((((r + 1 : Nat)) : Int) - 1) = (r : Int) from by omega]
      have hr' : r < 32 := by omega
      have HB := Lib.hid (sel_bit (wd m) (wd a) (wd b) r (wd_lt m) (by omega))
      have ha := wBit_two a r
      have hb := wBit_two b r
      have HA := Lib.hid (wBit_nat a r (by omega))
      have HC := Lib.hid (wBit_nat b r (by omega))
      have HM := Lib.hid (wBit_nat m r (by omega))
      have HF := Lib.hid hf
      clear hf
      by_cases hm : wBit m r = 1
      · have hq : (((wBit m r : Nat) : Int) == 1) = true := by rw [hm]; rfl
        have H := Lib.hid hm
        clear hm
        go_wp2_with (first | (go_at_call 97; refine (ref_Bit _ _ _).mono ?_; rintro e w' ⟨rfl, rfl⟩))
        go_round
        case rel => exact ⟨r, by omega, rfl, three_step _ _ _ HF.out (by unfold wSelect; rw [HB.out, ← HM.out, ← HA.out, ← HC.out, if_pos H.out])⟩
        case measure => simp [intOf]
      · have hq : (((wBit m r : Nat) : Int) == 1) = false := by simp; omega
        have H := Lib.hid hm
        clear hm
        go_wp2_with (first | (go_at_call 97; refine (ref_Bit _ _ _).mono ?_; rintro e w' ⟨rfl, rfl⟩))
        go_round
        case rel => exact ⟨r, by omega, rfl, three_step _ _ _ HF.out (by unfold wSelect; rw [HB.out, ← HM.out, ← HA.out, ← HC.out, if_neg H.out])⟩
        case measure => simp [intOf]
theorem ref_Not (a : Int) (w : World) : Calls Try.prog 66 #[.int .i64 a] w fun e w' => e = .returned (.int .i64 (wNot a : Nat)) ∧ w = w' := by
  go_enter Try.func66, Try.ntmps66
  go_wp2_with (go_at_call 78; refine (ref_three0 _ _ _ _).mono ?_; rintro e w' ⟨rfl, rfl⟩)
  go_ret
  exact ⟨rfl, rfl⟩
theorem ref_And (a b : Int) (w : World) : Calls Try.prog 63 #[.int .i64 a, .int .i64 b] w fun e w' => e = .returned (.int .i64 (wAnd a b : Nat)) ∧ w = w' := by
  go_enter Try.func63, Try.ntmps63
  go_wp2_with (go_at_call 78; refine (ref_three1 _ _ _ _).mono ?_; rintro e w' ⟨rfl, rfl⟩)
  go_ret
  exact ⟨rfl, rfl⟩
theorem ref_Or (a b : Int) (w : World) : Calls Try.prog 64 #[.int .i64 a, .int .i64 b] w fun e w' => e = .returned (.int .i64 (wOr a b : Nat)) ∧ w = w' := by
  go_enter Try.func64, Try.ntmps64
  go_wp2_with (go_at_call 78; refine (ref_three2 _ _ _ _).mono ?_; rintro e w' ⟨rfl, rfl⟩)
  go_ret
  exact ⟨rfl, rfl⟩
theorem ref_Xor (a b : Int) (w : World) : Calls Try.prog 65 #[.int .i64 a, .int .i64 b] w fun e w' => e = .returned (.int .i64 (wXor a b : Nat)) ∧ w = w' := by
  go_enter Try.func65, Try.ntmps65
  go_wp2_with (go_at_call 78; refine (ref_three3 _ _ _ _).mono ?_; rintro e w' ⟨rfl, rfl⟩)
  go_ret
  exact ⟨rfl, rfl⟩
theorem ref_Select (m a b : Int) (w : World) : Calls Try.prog 73 #[.int .i64 m, .int .i64 a, .int .i64 b] w fun e w' => e = .returned (.int .i64 (wSelect m a b : Nat)) ∧ w = w' := by
  go_enter Try.func73, Try.ntmps73
  go_wp2_with (go_at_call 78; refine (ref_three4 _ _ _ _).mono ?_; rintro e w' ⟨rfl, rfl⟩)
  go_ret
  exact ⟨rfl, rfl⟩
end Go.Proofs.Ytfadeipdepamlaa
