/- Contracts of package walk's inner functions: unit, turn, at, may, place. What stands for a quarter turn is one of four complex numbers; conditions stand with each theorem. -/
import Derived.Test.YtgkaempkapnfcaaFloat
import Derived.Test.YtgkaempkapnfcaaBytes
namespace Go.Proofs.Ytgkaempkapnfcaa
open Go.RowKit

def one64 : Nat := 4607182418800017408
def neg64 : Nat := 13830554455654793216
/-- The words of the powers of the imaginary unit. -/
def uRe : Nat → Nat
  | 0 => 4607182418800017408
  | 1 => 0
  | 2 => 13830554455654793216
  | _ => 9223372036854775808
def uIm : Nat → Nat
  | 0 => 0
  | 1 => 4607182418800017408
  | 2 => 0
  | _ => 13830554455654793216
/-- The powers of the imaginary unit. -/
def cosI : Nat → Int
  | 0 => 1
  | 1 => 0
  | 2 => -1
  | _ => 0
def sinI : Nat → Int
  | 0 => 0
  | 1 => 1
  | 2 => 0
  | _ => -1
theorem isF_zeros (s : Bool) : IsF (Ieee.double.word s 0) 0 := by
  obtain ⟨q', hq'⟩ : ∃ q' : Nat, q' = 1074 := ⟨_, rfl⟩
  refine ⟨s, 0, q', by rw [read_zero, hq']; rfl, ?_⟩
  rw [Int.zero_mul]; cases s <;> rfl
theorem isF_zero : IsF 0 0 := isF_zeros false
theorem isF_negzero : IsF 9223372036854775808 0 := isF_zeros true
theorem isF_one : IsF 4607182418800017408 1 := ⟨false, 4503599627370496, 52, by decide +kernel, by decide +kernel⟩
theorem isF_negone : IsF 13830554455654793216 (-1) := ⟨true, 4503599627370496, 52, by decide +kernel, by decide +kernel⟩
theorem isF_uRe : ∀ k, k < 4 → IsF (uRe k) (cosI k)
  | 0, _ => isF_one
  | 1, _ => isF_zero
  | 2, _ => isF_negone
  | 3, _ => isF_negzero
theorem isF_uIm : ∀ k, k < 4 → IsF (uIm k) (sinI k)
  | 0, _ => isF_zero
  | 1, _ => isF_one
  | 2, _ => isF_zero
  | 3, _ => isF_negone
theorem unit_mul (k : Nat) (hk : k < 3) : cMulBits (uRe k) (uIm k) 0 4607182418800017408 = some (uRe (k + 1), uIm (k + 1)) := by
  match k, hk with
  | 0, _ => decide +kernel
  | 1, _ => decide +kernel
  | 2, _ => decide +kernel
theorem walk_unit (k : Nat) (hk : k < 4) (w : World) : Calls Try.prog 70 #[.int .i64 (k : Int)] w fun e w' => e = .returned (.complex .f64 (uRe k) (uIm k)) ∧ w = w' := by
  go_enter Try.func70, Try.ntmps70
  go_wp2
  go_loop [3, 5] (fun p i => ∃ j : Nat, j ≤ k ∧ i = .int .i64 j ∧ p = .complex .f64 (uRe j) (uIm j)) (fun _ i => k - (intOf i).toNat)
  case atStart => exact ⟨0, Nat.zero_le _, rfl, rfl⟩
  case round =>
    obtain ⟨j, hj, rfl, rfl⟩ := hrel
    by_cases hlt : j < k
    · have hm : ∀ (t : TypeId) (w : World), (binOp .mul t (.complex .f64 (uRe j) (uIm j)) (.complex .f64 0 4607182418800017408)).run Try.prog w = .ok (.complex .f64 (uRe (j + 1)) (uIm (j + 1))) w :=
        fun t w => run_complex_mul w t _ _ _ _ _ _ (unit_mul j (by omega))
      go_wp2
      go_round
      case rel => exact ⟨j + 1, by omega, by go_num, rfl⟩
      case measure => simp [intOf]; omega
    · obtain rfl : j = k := by omega
      go_wp2
      go_ret
      exact ⟨rfl, rfl⟩
theorem unit_eq (j k : Nat) (hj : j < 4) (hk : k < 4) : ((cosI j == cosI k) && (sinI j == sinI k)) = decide (j = k) := by
  match j, hj, k, hk with
  | 0, _, 0, _ | 0, _, 1, _ | 0, _, 2, _ | 0, _, 3, _ => rfl
  | 1, _, 0, _ | 1, _, 1, _ | 1, _, 2, _ | 1, _, 3, _ => rfl
  | 2, _, 0, _ | 2, _, 1, _ | 2, _, 2, _ | 2, _, 3, _ => rfl
  | 3, _, 0, _ | 3, _, 1, _ | 3, _, 2, _ | 3, _, 3, _ => rfl
theorem order_eq {x y : Nat} {a b : Int} (hx : IsF x a) (hy : IsF y b) : (FloatKind.f64.format.order x y == some Ordering.eq) = (a == b) := by
  rw [show FloatKind.f64.format = Ieee.double from rfl, hx.order hy]
  by_cases h : a = b
  · subst h; rw [Int.compare_eq_eq.2 rfl]; simp
  · have : compare a b ≠ .eq := fun e => h (Int.compare_eq_eq.1 e)
    have h2 : (a == b) = false := by simpa using h
    rw [h2]; simpa using this
theorem walk_turn (x y : Nat) (k : Nat) (hk : k < 4) (hx : IsF x (cosI k)) (hy : IsF y (sinI k)) (w : World) : Calls Try.prog 76 #[.complex .f64 x y] w fun e w' => e = .returned (.int .i64 (k : Int)) ∧ w = w' := by
  have hq : ∀ j, j < 4 → ((FloatKind.f64.format.order (uRe j) x == some Ordering.eq) && (FloatKind.f64.format.order (uIm j) y == some Ordering.eq)) = decide (j = k) := fun j hj => by
    rw [order_eq (isF_uRe j hj) hx, order_eq (isF_uIm j hj) hy, unit_eq j k hj hk]
  have HQ := Lib.hid hq
  clear hq hx hy
  go_enter Try.func76, Try.ntmps76
  go_wp2
  go_loop [3, 4] (fun _ i => ∃ j : Nat, j ≤ k ∧ i = .int .i64 j) (fun _ i => k + 1 - (intOf i).toNat)
  case atStart => exact ⟨0, Nat.zero_le _, rfl⟩
  case round =>
    obtain ⟨j, hj, rfl⟩ := hrel
    have hq := HQ.out j (by omega)
    by_cases hlt : j < k
    · rw [decide_eq_false (by omega)] at hq
      have hj4 : j < 4 := by omega
      go_wp2_with (go_at_call 70; refine (walk_unit _ (by omega) _).mono ?_; rintro e w' ⟨rfl, rfl⟩)
      go_round
      case rel => exact ⟨j + 1, by omega, by go_num⟩
      case measure => simp [intOf]; omega
    · obtain rfl : j = k := by omega
      rw [decide_eq_true rfl] at hq
      go_wp2_with (go_at_call 70; refine (walk_unit _ (by omega) _).mono ?_; rintro e w' ⟨rfl, rfl⟩)
      go_ret
      exact ⟨rfl, rfl⟩
end Go.Proofs.Ytgkaempkapnfcaa
