/- Contracts of the functions of hauberkref01 that tell numbers, one a function: called with any numbers each returns what is named here, and the world is as it was. -/
import Derived.Test.YtiaimceefkdchaaWord
namespace Go.Proofs.Ytiaimceefkdchaa
open Go.RowKit

theorem u64_tmod (n k : Int) : (IntKind.u64.wrap n).tmod k = (n % 18446744073709551616) % k := by
  rw [wrapu64, Int.tmod_eq_emod_of_nonneg (by omega)]
theorem u64_tdiv (n k : Int) : (IntKind.u64.wrap n).tdiv k = (n % 18446744073709551616) / k := by
  rw [wrapu64, Int.tdiv_eq_ediv_of_nonneg (by omega)]
theorem uprod (a b : Int) : IntKind.u64.wrap ((wd a : Nat) : Int) * IntKind.u64.wrap ((wd b : Nat) : Int) = ((wd a * wd b : Nat) : Int) := by
  rw [wrapu_wd, wrapu_wd, Int.natCast_mul]
def pw (k : Nat) : Nat := 2 ^ k
theorem pw_pos (k : Nat) : 0 < pw k := Nat.pow_pos (by decide)
theorem pw_sh (n : Int) : pw (sh n) ≤ 2147483648 := pow_sh n
/-- A bit of a natural number, as a number. -/
theorem bit_test (x i : Nat) : x / 2 ^ i % 2 = (x.testBit i).toNat := by rw [Nat.toNat_testBit]
/-- The upper bits of a number, with one bit more. -/
theorem bit_join (f i : Nat) : 2 * (f / 2 ^ (i + 1)) + f / 2 ^ i % 2 = f / 2 ^ i := by
  rw [Nat.pow_succ, ← Nat.div_div_eq_div_mul]; omega
theorem sh_nat (i : Nat) (h : i < 32) : sh (i : Int) = i := by unfold sh; omega
theorem wBit_nat (a : Int) (i : Nat) (h : i < 32) : wBit a (i : Int) = wd a / 2 ^ i % 2 := by unfold wBit; rw [sh_nat i h]
theorem wBit_two (a n : Int) : wBit a n < 2 := by unfold wBit; omega
theorem ref_Wrap (n : Int) (w : World) : Calls Try.prog 131 #[.int .i64 n] w fun e w' => e = .returned (.int .i64 (wd n : Nat)) ∧ w = w' := by
  go_enter Try.func131, Try.ntmps131
  go_wp2
  go_ret
  exact ⟨ret_int (by rw [u64_tmod]; unfold wd wrap64; omega), rfl⟩
theorem ref_many (n : Int) (w : World) : Calls Try.prog 155 #[.int .i64 n] w fun e w' => e = .returned (.int .i64 (sh n : Nat)) ∧ w = w' := by
  go_enter Try.func155, Try.ntmps155
  go_wp2
  go_ret
  exact ⟨ret_int (by rw [u64_tmod]; unfold sh wrap64; omega), rfl⟩
theorem ref_Add (a b : Int) (w : World) : Calls Try.prog 132 #[.int .i64 a, .int .i64 b] w fun e w' => e = .returned (.int .i64 (wAdd a b : Nat)) ∧ w = w' := by
  go_enter Try.func132, Try.ntmps132
  go_wp2_with (first | (go_at_call 131; refine (ref_Wrap _ _).mono ?_; rintro e w' ⟨rfl, rfl⟩))
  go_ret
  exact ⟨ret_int (by have h1 := wd_lt a; have h2 := wd_lt b; rw [wrap64_small _ (by omega) (by omega)]; unfold wAdd wd; omega), rfl⟩
theorem ref_Sub (a b : Int) (w : World) : Calls Try.prog 133 #[.int .i64 a, .int .i64 b] w fun e w' => e = .returned (.int .i64 (wSub a b : Nat)) ∧ w = w' := by
  go_enter Try.func133, Try.ntmps133
  go_wp2_with (first | (go_at_call 131; refine (ref_Wrap _ _).mono ?_; rintro e w' ⟨rfl, rfl⟩))
  go_ret
  exact ⟨ret_int (by have h1 := wd_lt a; have h2 := wd_lt b; unfold wSub wd wrap64 at *; omega), rfl⟩
theorem ref_Mul (a b : Int) (w : World) : Calls Try.prog 134 #[.int .i64 a, .int .i64 b] w fun e w' => e = .returned (.int .i64 (wMul a b : Nat)) ∧ w = w' := by
  go_enter Try.func134, Try.ntmps134
  go_wp2_with (first | (go_at_call 131; refine (ref_Wrap _ _).mono ?_; rintro e w' ⟨rfl, rfl⟩))
  go_ret
  exact ⟨ret_int (by have h := mul_lt a b; rw [uprod, u64_tmod]; unfold wMul; generalize wd a * wd b = x at *; unfold wrap64; omega), rfl⟩
theorem ref_High (a b : Int) (w : World) : Calls Try.prog 135 #[.int .i64 a, .int .i64 b] w fun e w' => e = .returned (.int .i64 (wHigh a b : Nat)) ∧ w = w' := by
  go_enter Try.func135, Try.ntmps135
  go_wp2_with (first | (go_at_call 131; refine (ref_Wrap _ _).mono ?_; rintro e w' ⟨rfl, rfl⟩))
  go_ret
  exact ⟨ret_int (by have h := mul_lt a b; rw [uprod, u64_tdiv, wrapu64]; unfold wHigh; generalize wd a * wd b = x at *; unfold wrap64; omega), rfl⟩
theorem ref_Carry (a b : Int) (w : World) : Calls Try.prog 145 #[.int .i64 a, .int .i64 b] w fun e w' => e = .returned (.int .i64 (wCarry a b : Nat)) ∧ w = w' := by
  go_enter Try.func145, Try.ntmps145
  go_wp2_with (first | (go_at_call 131; refine (ref_Wrap _ _).mono ?_; rintro e w' ⟨rfl, rfl⟩))
  go_ret
  exact ⟨ret_int (by have h1 := wd_lt a; have h2 := wd_lt b; rw [wrap64_small (_ + _) (by omega) (by omega), Int.tdiv_eq_ediv_of_nonneg (by omega)]; unfold wCarry wrap64; omega), rfl⟩
theorem ref_Less (a b : Int) (w : World) : Calls Try.prog 143 #[.int .i64 a, .int .i64 b] w fun e w' => e = .returned (.int .i64 (wLess a b : Nat)) ∧ w = w' := by
  by_cases h : wd a < wd b
  all_goals
    go_enter Try.func143, Try.ntmps143
    go_wp2_with (first | (go_at_call 131; refine (ref_Wrap _ _).mono ?_; rintro e w' ⟨rfl, rfl⟩))
    go_ret
    exact ⟨ret_int (by simp [wLess, wMask, h]), rfl⟩
theorem ref_Same (a b : Int) (w : World) : Calls Try.prog 144 #[.int .i64 a, .int .i64 b] w fun e w' => e = .returned (.int .i64 (wSame a b : Nat)) ∧ w = w' := by
  by_cases h : wd a = wd b
  all_goals
    have h' := beq_cast (wd a) (wd b)
    simp only [h, decide_true, decide_false] at h'
    go_enter Try.func144, Try.ntmps144
    go_wp2_with (first | (go_at_call 131; refine (ref_Wrap _ _).mono ?_; rintro e w' ⟨rfl, rfl⟩))
    go_ret
    exact ⟨ret_int (by simp [wSame, wMask, h]), rfl⟩
theorem ref_power (k : Nat) (hk : k ≤ 62) (w : World) : Calls Try.prog 154 #[.int .i64 (k : Int)] w fun e w' => e = .returned (.int .i64 (pw k : Nat)) ∧ w = w' := by
  go_enter Try.func154, Try.ntmps154
  go_wp2
  go_loop [3, 4] (fun p i => ∃ j : Nat, j ≤ k ∧ i = .int .i64 j ∧ p = .int .i64 (2 ^ j : Nat)) (fun _ i => k - (intOf i).toNat)
  case atStart => exact ⟨0, Nat.zero_le _, rfl, rfl⟩
  case round =>
    obtain ⟨j, hj, rfl, rfl⟩ := hrel
    by_cases hlt : j < k
    · have hp : (2 ^ j : Nat) ≤ 2 ^ 61 := Nat.pow_le_pow_right (by decide) (by omega)
      have hs : (2 ^ (j + 1) : Nat) = 2 ^ j * 2 := Nat.pow_succ ..
      have hp' : (2 ^ j : Nat) ≤ 2305843009213693952 := hp
      clear hp
      have HS := Lib.hid hs
      clear hs
      generalize 2 ^ j = q at *
      go_wp2
      go_round
      case rel => exact ⟨j + 1, by omega, by go_num, by rw [HS.out]; go_num⟩
      case measure => simp [intOf]; omega
    · obtain rfl : j = k := by omega
      go_wp2
      go_ret
      exact ⟨rfl, rfl⟩
theorem wrap64_nat (x : Nat) (h : x < 9223372036854775808) : wrap64 (x : Int) = (x : Nat) := wrap64_small _ (by omega) (by omega)
theorem wdiv (a : Int) (q : Nat) : wrap64 (((wd a : Nat) : Int) / (q : Int)) = ((wd a / q : Nat) : Int) := by
  have h := Nat.lt_of_le_of_lt (Nat.div_le_self (wd a) q) (wd_lt a)
  rw [← Int.natCast_ediv, wrap64_nat _ (by omega)]
theorem ref_Bit (a n : Int) (w : World) : Calls Try.prog 156 #[.int .i64 a, .int .i64 n] w fun e w' => e = .returned (.int .i64 (wBit a n : Nat)) ∧ w = w' := by
  have h1 := pw_pos (sh n)
  go_enter Try.func156, Try.ntmps156
  go_wp2_with (first | (go_at_call 131; refine (ref_Wrap _ _).mono ?_; rintro e w' ⟨rfl, rfl⟩) | (go_at_call 155; refine (ref_many _ _).mono ?_; rintro e w' ⟨rfl, rfl⟩) | (go_at_call 154; refine (ref_power (sh _) (by have := sh_lt n; omega) _).mono ?_; rintro e w' ⟨rfl, rfl⟩))
  go_ret
  exact ⟨ret_int (by rw [wdiv, Int.tmod_eq_emod_of_nonneg (Int.natCast_nonneg _)]; rfl), rfl⟩
theorem ref_Shl (a n : Int) (w : World) : Calls Try.prog 140 #[.int .i64 a, .int .i64 n] w fun e w' => e = .returned (.int .i64 (wShl a n : Nat)) ∧ w = w' := by
  have h1 := pw_pos (sh n)
  go_enter Try.func140, Try.ntmps140
  go_wp2_with (first | (go_at_call 134; refine (ref_Mul _ _ _).mono ?_; rintro e w' ⟨rfl, rfl⟩) | (go_at_call 155; refine (ref_many _ _).mono ?_; rintro e w' ⟨rfl, rfl⟩) | (go_at_call 154; refine (ref_power (sh _) (by have := sh_lt n; omega) _).mono ?_; rintro e w' ⟨rfl, rfl⟩))
  go_ret
  exact ⟨ret_int (by unfold wMul wShl; rw [wd_nat (pw _) (Nat.lt_of_le_of_lt (pw_sh n) (by decide))]; rfl), rfl⟩
theorem ref_Shr (a n : Int) (w : World) : Calls Try.prog 141 #[.int .i64 a, .int .i64 n] w fun e w' => e = .returned (.int .i64 (wShr a n : Nat)) ∧ w = w' := by
  have h1 := pw_pos (sh n)
  go_enter Try.func141, Try.ntmps141
  go_wp2_with (first | (go_at_call 131; refine (ref_Wrap _ _).mono ?_; rintro e w' ⟨rfl, rfl⟩) | (go_at_call 155; refine (ref_many _ _).mono ?_; rintro e w' ⟨rfl, rfl⟩) | (go_at_call 154; refine (ref_power (sh _) (by have := sh_lt n; omega) _).mono ?_; rintro e w' ⟨rfl, rfl⟩))
  go_ret
  exact ⟨ret_int (by rw [wdiv]; rfl), rfl⟩
theorem flip_off (x k : Nat) (h : x / 2 ^ k % 2 = 1) : x ^^^ 2 ^ k = x - 2 ^ k ∧ 2 ^ k ≤ x := by
  have hb : x.testBit k = true := by
    have := bit_test x k
    rw [h] at this
    cases hx : x.testBit k <;> simp [hx] at this ⊢
  have hle : 2 ^ k ≤ x := Nat.ge_two_pow_of_testBit hb
  refine ⟨?_, hle⟩
  have e := nat_join (k + 1) (x / 2 ^ (k + 1) * 2 ^ (k + 1)) (x % 2 ^ k) (Nat.mul_mod_left _ _) (Nat.lt_of_lt_of_le (Nat.mod_lt _ (Nat.pow_pos (by decide))) (Nat.pow_le_pow_right (by decide) (by omega)))
  have e2 := Nat.mod_add_div x (2 ^ k)
  have e3 : x / 2 ^ k = 2 * (x / 2 ^ (k + 1)) + 1 := by
    have := bit_join x k; omega
  have e4 : x - 2 ^ k = x / 2 ^ (k + 1) * 2 ^ (k + 1) + x % 2 ^ k := by
    rw [e3, Nat.mul_add, Nat.mul_one, ← Nat.mul_assoc, ← Nat.pow_succ, Nat.mul_comm (2 ^ (k + 1))] at e2
    omega
  rw [e4, ← e]
  apply Nat.eq_of_testBit_eq
  intro i
  simp only [Nat.testBit_xor, Nat.testBit_or, Nat.testBit_mul_two_pow, Nat.testBit_mod_two_pow, Nat.testBit_two_pow, Nat.testBit_div_two_pow]
  rcases Nat.lt_trichotomy i k with h1 | h1 | h1
  · have : ¬ k + 1 ≤ i := by omega
    have : ¬ k = i := by omega
    simp [*]
  · subst h1
    simp [hb]
    intro h7
    omega
  · have h2 : k + 1 ≤ i := by omega
    have h3 : ¬ i < k := by omega
    have h4 : ¬ k = i := by omega
    have h6 : i - (k + 1) + (k + 1) = i := by omega
    simp [h2, h3, h4, h6]
theorem flip_on (x k : Nat) (h : x / 2 ^ k % 2 = 0) : x ^^^ 2 ^ k = x + 2 ^ k := by
  have h1 := bit_join x k
  have hy : (x + 2 ^ k) / 2 ^ k = x / 2 ^ k + 1 := Nat.add_div_right _ (Nat.pow_pos (by decide))
  have hf := flip_off (x + 2 ^ k) k (by rw [hy]; omega)
  have h2 : (x + 2 ^ k) ^^^ 2 ^ k = x := by rw [hf.1]; omega
  calc x ^^^ 2 ^ k = ((x + 2 ^ k) ^^^ 2 ^ k) ^^^ 2 ^ k := by rw [h2]
    _ = x + 2 ^ k := by rw [Nat.xor_assoc, Nat.xor_self, Nat.xor_zero]
theorem s32_bound (x : Nat) (h : x < 4294967296) : -2147483648 ≤ s32 x ∧ s32 x < 2147483648 := by unfold s32; split <;> omega
theorem ediv_range (s : Int) (q : Nat) (h : -2147483648 ≤ s ∧ s < 2147483648) (hq : 0 < q) : -2147483648 ≤ s / (q : Int) ∧ s / (q : Int) < 2147483648 := by
  constructor
  · have : -2147483648 * (q : Int) ≤ s := by
      have : (1 : Int) ≤ q := by omega
      have h2 : (q : Int) * 2147483648 ≥ 1 * 2147483648 := Int.mul_le_mul_of_nonneg_right this (by decide)
      omega
    exact Int.le_ediv_of_mul_le (by omega) this
  · rcases Int.le_total 0 s with h0 | h0
    · exact Int.lt_of_le_of_lt (Int.ediv_le_self _ h0) h.2
    · have h1 : s / (q : Int) ≤ 0 := by
        have := Int.ediv_le_ediv (c := (q : Int)) (by omega) h0
        simpa using this
      omega
/-- One step of a shift with the sign. -/
def sarS (a : Int) (j : Nat) : Nat := wd (s32 (wd a) / ((2 ^ j : Nat) : Int))
theorem sarS_lt (a : Int) (j : Nat) : sarS a j < 4294967296 := wd_lt _
theorem sarS_zero (a : Int) : sarS a 0 = wd a := by
  have h := wd_lt a
  unfold sarS; simp only [Nat.pow_zero, Int.natCast_one, Int.ediv_one]
  unfold s32; split
  · exact wd_wd a
  · have := wd_castmod (wd a); unfold wd at *; omega
theorem sarS_succ (a : Int) (j : Nat) : sarS a (j + 1) = sarS a j / 2 + sarS a j / 2147483648 * 2147483648 := by
  have hb := ediv_range (s32 (wd a)) (2 ^ j) (s32_bound _ (wd_lt a)) (Nat.pow_pos (by decide))
  have e : s32 (wd a) / ((2 ^ (j + 1) : Nat) : Int) = s32 (wd a) / ((2 ^ j : Nat) : Int) / 2 := by
    rw [Nat.pow_succ, Int.natCast_mul, Int.ediv_ediv_of_nonneg (Int.natCast_nonneg _)]; rfl
  unfold sarS
  rw [e]
  generalize s32 (wd a) / ((2 ^ j : Nat) : Int) = t at *
  unfold wd; omega
/-- One step of a turn. -/
def rorS (x j : Nat) : Nat := x / 2 ^ j + x % 2 ^ j * 2 ^ (32 - j)
theorem rorS_zero (x : Nat) : rorS x 0 = x := by unfold rorS; simp [Nat.mod_one]
theorem rorS_lt (x j : Nat) (hx : x < 4294967296) (hj : j ≤ 32) : rorS x j < 4294967296 := by
  unfold rorS
  have e : (4294967296 : Nat) = 2 ^ (32 - j) * 2 ^ j := by rw [← Nat.pow_add, show 32 - j + j = 32 by omega]
  have h1 : x / 2 ^ j < 2 ^ (32 - j) := Nat.div_lt_of_lt_mul (by rw [Nat.mul_comm, ← e]; exact hx)
  have h2 : x % 2 ^ j < 2 ^ j := Nat.mod_lt _ (Nat.pow_pos (by decide))
  have h3 : (x % 2 ^ j + 1) * 2 ^ (32 - j) ≤ 2 ^ j * 2 ^ (32 - j) := Nat.mul_le_mul_right _ h2
  rw [Nat.add_mul, Nat.mul_comm (2 ^ j), ← e] at h3
  omega
theorem rorS_succ (x j : Nat) (hj : j < 32) : rorS x (j + 1) = rorS x j / 2 + rorS x j % 2 * 2147483648 := by
  unfold rorS
  have e0 : 2 ^ (32 - j) = 2 * 2 ^ (31 - j) := by rw [show 32 - j = (31 - j) + 1 by omega, Nat.pow_succ, Nat.mul_comm]
  have e1 : 32 - (j + 1) = 31 - j := by omega
  have e2 : x / 2 ^ (j + 1) = x / 2 ^ j / 2 := by rw [Nat.pow_succ, Nat.div_div_eq_div_mul]
  have e3 : x % 2 ^ (j + 1) = x % 2 ^ j + 2 ^ j * (x / 2 ^ j % 2) := by rw [Nat.pow_succ, Nat.mod_mul]
  have e4 : 2 ^ j * 2 ^ (31 - j) = 2147483648 := by rw [← Nat.pow_add, show j + (31 - j) = 31 by omega]
  rw [e0, e1, e2, e3, Nat.add_mul, Nat.mul_comm (2 ^ j), Nat.mul_assoc, e4]
  have e5 : x % 2 ^ j * (2 * 2 ^ (31 - j)) = 2 * (x % 2 ^ j * 2 ^ (31 - j)) := by rw [← Nat.mul_assoc, Nat.mul_comm _ 2, Nat.mul_assoc]
  rw [e5]
  generalize x / 2 ^ j = u
  generalize x % 2 ^ j * 2 ^ (31 - j) = v
  omega
theorem ref_Ror (a n : Int) (w : World) : Calls Try.prog 142 #[.int .i64 a, .int .i64 n] w fun e w' => e = .returned (.int .i64 (wRor a n : Nat)) ∧ w = w' := by
  have hn := sh_lt n
  go_enter Try.func142, Try.ntmps142
  go_wp2_with (first | (go_at_call 131; refine (ref_Wrap _ _).mono ?_; rintro e w' ⟨rfl, rfl⟩) | (go_at_call 155; refine (ref_many _ _).mono ?_; rintro e w' ⟨rfl, rfl⟩))
  go_loop [5, 6] (fun p i => ∃ j : Nat, j ≤ sh n ∧ i = .int .i64 j ∧ p = .int .i64 (rorS (wd a) j : Nat)) (fun _ i => sh n - (intOf i).toNat)
  case atStart => exact ⟨0, Nat.zero_le _, rfl, by rw [rorS_zero (wd a)]⟩
  case round =>
    obtain ⟨j, hj, rfl, rfl⟩ := hrel
    by_cases hlt : j < sh n
    · have hp := rorS_lt (wd a) j (wd_lt a) (by omega)
      have HS := Lib.hid (rorS_succ (wd a) j (by omega))
      generalize rorS (wd a) j = q at *
      go_wp2_with (first | (go_at_call 131; refine (ref_Wrap _ _).mono ?_; rintro e w' ⟨rfl, rfl⟩) | (go_at_call 155; refine (ref_many _ _).mono ?_; rintro e w' ⟨rfl, rfl⟩))
      go_round
      case rel => exact ⟨j + 1, by omega, by go_num, by rw [HS.out]; exact congrArg (Value.int .i64) (by omega)⟩
      case measure => simp [intOf]; omega
    · obtain rfl : j = sh n := by omega
      go_wp2_with (first | (go_at_call 131; refine (ref_Wrap _ _).mono ?_; rintro e w' ⟨rfl, rfl⟩) | (go_at_call 155; refine (ref_many _ _).mono ?_; rintro e w' ⟨rfl, rfl⟩))
      go_ret
      exact ⟨rfl, rfl⟩
end Go.Proofs.Ytiaimceefkdchaa
