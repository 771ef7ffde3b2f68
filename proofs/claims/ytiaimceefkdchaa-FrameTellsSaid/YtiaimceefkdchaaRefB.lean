/- Contracts of the functions of hauberkref01 that tell bit by bit, one a function: called with any numbers each returns what is named here, and the world is as it was. -/
import Derived.Test.YtiaimceefkdchaaRefW
namespace Go.Proofs.Ytiaimceefkdchaa
open Go.RowKit

theorem bit_le (x i : Nat) : x / 2 ^ i % 2 < 2 := by omega
theorem not_bit (x i : Nat) (hx : x < 4294967296) (hi : i < 32) : (4294967295 - x) / 2 ^ i % 2 = 1 - x / 2 ^ i % 2 := by
  have e : (4294967295 - x).testBit i = !x.testBit i := by
    have := Nat.testBit_two_pow_sub_succ (n := 32) hx i
    rw [show 2 ^ 32 - (x + 1) = 4294967295 - x from by omega] at this
    rw [this]; simp [hi]
  rw [bit_test, bit_test, e]; cases x.testBit i <;> rfl
theorem and_bit (x y i : Nat) : (x &&& y) / 2 ^ i % 2 = x / 2 ^ i % 2 * (y / 2 ^ i % 2) := by
  rw [bit_test, bit_test, bit_test, Nat.testBit_and]; cases x.testBit i <;> cases y.testBit i <;> rfl
theorem or_bit (x y i : Nat) : (x ||| y) / 2 ^ i % 2 = max (x / 2 ^ i % 2) (y / 2 ^ i % 2) := by
  rw [bit_test, bit_test, bit_test, Nat.testBit_or]; cases x.testBit i <;> cases y.testBit i <;> rfl
theorem xor_bit (x y i : Nat) : (x ^^^ y) / 2 ^ i % 2 = (x / 2 ^ i % 2 + y / 2 ^ i % 2) % 2 := by
  rw [bit_test, bit_test, bit_test, Nat.testBit_xor]; cases x.testBit i <;> cases y.testBit i <;> rfl
theorem sel_bit (m x y i : Nat) (hm : m < 4294967296) (hi : i < 32) : ((x &&& m) ||| (y &&& (4294967295 - m))) / 2 ^ i % 2 = if m / 2 ^ i % 2 = 1 then x / 2 ^ i % 2 else y / 2 ^ i % 2 := by
  rw [or_bit, and_bit, and_bit, not_bit m i hm hi]
  have h1 := bit_le m i
  have h2 := bit_le x i
  have h3 := bit_le y i
  generalize m / 2 ^ i % 2 = u at *
  generalize x / 2 ^ i % 2 = v at *
  generalize y / 2 ^ i % 2 = t at *
  have : u = 0 ∨ u = 1 := by omega
  rcases this with rfl | rfl <;> simp
theorem three_step (f r : Nat) (X : Int) (hf : f < 4294967296) (hX : X = ((f / 2 ^ r % 2 : Nat) : Int)) : Value.int .i64 (wrap64 (wrap64 (2 * ((f : Int) / 2 ^ (r + 1))) + X)) = .int .i64 ((f / 2 ^ r : Nat) : Int) := by
  have h1 := bit_join f r
  have h2 := Nat.lt_of_le_of_lt (Nat.div_le_self f (2 ^ (r + 1))) hf
  rw [hX, ediv_cast]
  generalize f / 2 ^ (r + 1) = x at *
  generalize f / 2 ^ r = y at *
  refine congrArg _ ?_
  unfold wrap64; omega
theorem two (x : Nat) (h : x < 2) : x = 0 ∨ x = 1 := by omega
theorem top_zero (f : Nat) (h : f < 4294967296) : f / 2 ^ 32 = 0 := Nat.div_eq_of_lt h
theorem ref_three0 (m a b : Int) (w : World) : Calls Try.prog 153 #[.int .i64 m, .int .i64 a, .int .i64 b, .int .i64 0] w fun e w' => e = .returned (.int .i64 (wNot a : Nat)) ∧ w = w' := by
  have hf : wNot a < 4294967296 := by have := wd_lt a; unfold wNot; omega
  go_enter Try.func153, Try.ntmps153
  go_wp2
  go_loop [9, 10] (fun p i => ∃ r : Nat, r ≤ 32 ∧ i = .int .i64 ((r : Int) - 1) ∧ p = .int .i64 (wNot a / 2 ^ r : Nat)) (fun _ i => (intOf i + 1).toNat)
  case atStart => exact ⟨32, by omega, rfl, by rw [top_zero _ hf]; rfl⟩
  case round =>
    obtain ⟨r, hr, rfl, rfl⟩ := hrel
    rcases r with _ | r
    · rw [show (((0 : Nat) : Int) - 1) = -1 from rfl]
      go_wp2
      go_ret
      exact ⟨ret_int (by simp), rfl⟩
    · rw [show ((((r + 1 : Nat)) : Int) - 1) = (r : Int) from by omega]
      have hr' : r < 32 := by omega
      have HB := Lib.hid (not_bit (wd a) r (wd_lt a) (by omega))
      have ha := wBit_two a r
      have hb := wBit_two b r
      have HA := Lib.hid (wBit_nat a r (by omega))
      have HC := Lib.hid (wBit_nat b r (by omega))
      have HM := Lib.hid (wBit_nat m r (by omega))
      have HF := Lib.hid hf
      clear hf
      go_wp2_with (first | (go_at_call 156; refine (ref_Bit _ _ _).mono ?_; rintro e w' ⟨rfl, rfl⟩))
      go_round
      case rel => exact ⟨r, by omega, rfl, three_step _ _ _ HF.out (by unfold wNot; rw [HB.out, ← HA.out]; omega)⟩
      case measure => simp [intOf]
theorem ref_three1 (m a b : Int) (w : World) : Calls Try.prog 153 #[.int .i64 m, .int .i64 a, .int .i64 b, .int .i64 1] w fun e w' => e = .returned (.int .i64 (wAnd a b : Nat)) ∧ w = w' := by
  have hf : wAnd a b < 4294967296 := Nat.lt_of_le_of_lt Nat.and_le_left (wd_lt a)
  go_enter Try.func153, Try.ntmps153
  go_wp2
  go_loop [9, 10] (fun p i => ∃ r : Nat, r ≤ 32 ∧ i = .int .i64 ((r : Int) - 1) ∧ p = .int .i64 (wAnd a b / 2 ^ r : Nat)) (fun _ i => (intOf i + 1).toNat)
  case atStart => exact ⟨32, by omega, rfl, by rw [top_zero _ hf]; rfl⟩
  case round =>
    obtain ⟨r, hr, rfl, rfl⟩ := hrel
    rcases r with _ | r
    · rw [show (((0 : Nat) : Int) - 1) = -1 from rfl]
      go_wp2
      go_ret
      exact ⟨ret_int (by simp), rfl⟩
    · rw [show ((((r + 1 : Nat)) : Int) - 1) = (r : Int) from by omega]
      have hr' : r < 32 := by omega
      have HB := Lib.hid (and_bit (wd a) (wd b) r)
      have ha := wBit_two a r
      have hb := wBit_two b r
      have HA := Lib.hid (wBit_nat a r (by omega))
      have HC := Lib.hid (wBit_nat b r (by omega))
      have HM := Lib.hid (wBit_nat m r (by omega))
      have HF := Lib.hid hf
      clear hf
      go_wp2_with (first | (go_at_call 156; refine (ref_Bit _ _ _).mono ?_; rintro e w' ⟨rfl, rfl⟩))
      go_round
      case rel => exact ⟨r, by omega, rfl, three_step _ _ _ HF.out (by unfold wAnd; rw [HB.out, ← HA.out, ← HC.out]; rcases two _ ha with h | h <;> rcases two _ hb with h' | h' <;> rw [h, h'] <;> simp [wrap64])⟩
      case measure => simp [intOf]
theorem ref_three2 (m a b : Int) (w : World) : Calls Try.prog 153 #[.int .i64 m, .int .i64 a, .int .i64 b, .int .i64 2] w fun e w' => e = .returned (.int .i64 (wOr a b : Nat)) ∧ w = w' := by
  have hf : wOr a b < 4294967296 := Nat.or_lt_two_pow (n := 32) (wd_lt a) (wd_lt b)
  go_enter Try.func153, Try.ntmps153
  go_wp2
  go_loop [9, 10] (fun p i => ∃ r : Nat, r ≤ 32 ∧ i = .int .i64 ((r : Int) - 1) ∧ p = .int .i64 (wOr a b / 2 ^ r : Nat)) (fun _ i => (intOf i + 1).toNat)
  case atStart => exact ⟨32, by omega, rfl, by rw [top_zero _ hf]; rfl⟩
  case round =>
    obtain ⟨r, hr, rfl, rfl⟩ := hrel
    rcases r with _ | r
    · rw [show (((0 : Nat) : Int) - 1) = -1 from rfl]
      go_wp2
      go_ret
      exact ⟨ret_int (by simp), rfl⟩
    · rw [show ((((r + 1 : Nat)) : Int) - 1) = (r : Int) from by omega]
      have hr' : r < 32 := by omega
      have HB := Lib.hid (or_bit (wd a) (wd b) r)
      have ha := wBit_two a r
      have hb := wBit_two b r
      have HA := Lib.hid (wBit_nat a r (by omega))
      have HC := Lib.hid (wBit_nat b r (by omega))
      have HM := Lib.hid (wBit_nat m r (by omega))
      have HF := Lib.hid hf
      clear hf
      go_wp2_with (first | (go_at_call 156; refine (ref_Bit _ _ _).mono ?_; rintro e w' ⟨rfl, rfl⟩))
      go_round
      case rel => exact ⟨r, by omega, rfl, three_step _ _ _ HF.out (by unfold wOr; rw [HB.out, ← HA.out, ← HC.out]; rcases two _ ha with h | h <;> rcases two _ hb with h' | h' <;> rw [h, h'] <;> simp)⟩
      case measure => simp [intOf]
theorem ref_three3 (m a b : Int) (w : World) : Calls Try.prog 153 #[.int .i64 m, .int .i64 a, .int .i64 b, .int .i64 3] w fun e w' => e = .returned (.int .i64 (wXor a b : Nat)) ∧ w = w' := by
  have hf : wXor a b < 4294967296 := Nat.xor_lt_two_pow (n := 32) (wd_lt a) (wd_lt b)
  go_enter Try.func153, Try.ntmps153
  go_wp2
  go_loop [9, 10] (fun p i => ∃ r : Nat, r ≤ 32 ∧ i = .int .i64 ((r : Int) - 1) ∧ p = .int .i64 (wXor a b / 2 ^ r : Nat)) (fun _ i => (intOf i + 1).toNat)
  case atStart => exact ⟨32, by omega, rfl, by rw [top_zero _ hf]; rfl⟩
  case round =>
    obtain ⟨r, hr, rfl, rfl⟩ := hrel
    rcases r with _ | r
    · rw [show (((0 : Nat) : Int) - 1) = -1 from rfl]
      go_wp2
      go_ret
      exact ⟨ret_int (by simp), rfl⟩
    · rw [show ((((r + 1 : Nat)) : Int) - 1) = (r : Int) from by omega]
      have hr' : r < 32 := by omega
      have HB := Lib.hid (xor_bit (wd a) (wd b) r)
      have ha := wBit_two a r
      have hb := wBit_two b r
      have HA := Lib.hid (wBit_nat a r (by omega))
      have HC := Lib.hid (wBit_nat b r (by omega))
      have HM := Lib.hid (wBit_nat m r (by omega))
      have HF := Lib.hid hf
      clear hf
      go_wp2_with (first | (go_at_call 156; refine (ref_Bit _ _ _).mono ?_; rintro e w' ⟨rfl, rfl⟩))
      go_round
      case rel => exact ⟨r, by omega, rfl, three_step _ _ _ HF.out (by unfold wXor; rw [HB.out, ← HA.out, ← HC.out]; rcases two _ ha with h | h <;> rcases two _ hb with h' | h' <;> rw [h, h'] <;> simp)⟩
      case measure => simp [intOf]
theorem ref_three4 (m a b : Int) (w : World) : Calls Try.prog 153 #[.int .i64 m, .int .i64 a, .int .i64 b, .int .i64 4] w fun e w' => e = .returned (.int .i64 (wSelect m a b : Nat)) ∧ w = w' := by
  have hf : wSelect m a b < 4294967296 := Nat.or_lt_two_pow (n := 32) (Nat.lt_of_le_of_lt Nat.and_le_left (wd_lt a)) (Nat.lt_of_le_of_lt Nat.and_le_left (wd_lt b))
  go_enter Try.func153, Try.ntmps153
  go_wp2
  go_loop [9, 10] (fun p i => ∃ r : Nat, r ≤ 32 ∧ i = .int .i64 ((r : Int) - 1) ∧ p = .int .i64 (wSelect m a b / 2 ^ r : Nat)) (fun _ i => (intOf i + 1).toNat)
  case atStart => exact ⟨32, by omega, rfl, by rw [top_zero _ hf]; rfl⟩
  case round =>
    obtain ⟨r, hr, rfl, rfl⟩ := hrel
    rcases r with _ | r
    · rw [show (((0 : Nat) : Int) - 1) = -1 from rfl]
      go_wp2
      go_ret
      exact ⟨ret_int (by simp), rfl⟩
    · rw [show ((((r + 1 : Nat)) : Int) - 1) = (r : Int) from by omega]
      have hr' : r < 32 := by omega
      have HB := Lib.hid (sel_bit (wd m) (wd a) (wd b) r (wd_lt m) (by omega))
      have ha := wBit_two a r
      have hb := wBit_two b r
      have HA := Lib.hid (wBit_nat a r (by omega))
      have HC := Lib.hid (wBit_nat b r (by omega))
      have HM := Lib.hid (wBit_nat m r (by omega))
      have HF := Lib.hid hf
      clear hf
      by_cases hm : wBit m r = 1
      · have hq : (((wBit m r : Nat) : Int) == 1) = true := by rw [hm]; rfl
        have H := Lib.hid hm
        clear hm
        go_wp2_with (first | (go_at_call 156; refine (ref_Bit _ _ _).mono ?_; rintro e w' ⟨rfl, rfl⟩))
        go_round
        case rel => exact ⟨r, by omega, rfl, three_step _ _ _ HF.out (by unfold wSelect; rw [HB.out, ← HM.out, ← HA.out, ← HC.out, if_pos H.out])⟩
        case measure => simp [intOf]
      · have hq : (((wBit m r : Nat) : Int) == 1) = false := by simp; omega
        have H := Lib.hid hm
        clear hm
        go_wp2_with (first | (go_at_call 156; refine (ref_Bit _ _ _).mono ?_; rintro e w' ⟨rfl, rfl⟩))
        go_round
        case rel => exact ⟨r, by omega, rfl, three_step _ _ _ HF.out (by unfold wSelect; rw [HB.out, ← HM.out, ← HA.out, ← HC.out, if_neg H.out])⟩
        case measure => simp [intOf]
theorem ref_Not (a : Int) (w : World) : Calls Try.prog 139 #[.int .i64 a] w fun e w' => e = .returned (.int .i64 (wNot a : Nat)) ∧ w = w' := by
  go_enter Try.func139, Try.ntmps139
  go_wp2_with (go_at_call 153; refine (ref_three0 _ _ _ _).mono ?_; rintro e w' ⟨rfl, rfl⟩)
  go_ret
  exact ⟨rfl, rfl⟩
theorem ref_And (a b : Int) (w : World) : Calls Try.prog 136 #[.int .i64 a, .int .i64 b] w fun e w' => e = .returned (.int .i64 (wAnd a b : Nat)) ∧ w = w' := by
  go_enter Try.func136, Try.ntmps136
  go_wp2_with (go_at_call 153; refine (ref_three1 _ _ _ _).mono ?_; rintro e w' ⟨rfl, rfl⟩)
  go_ret
  exact ⟨rfl, rfl⟩
theorem ref_Or (a b : Int) (w : World) : Calls Try.prog 137 #[.int .i64 a, .int .i64 b] w fun e w' => e = .returned (.int .i64 (wOr a b : Nat)) ∧ w = w' := by
  go_enter Try.func137, Try.ntmps137
  go_wp2_with (go_at_call 153; refine (ref_three2 _ _ _ _).mono ?_; rintro e w' ⟨rfl, rfl⟩)
  go_ret
  exact ⟨rfl, rfl⟩
theorem ref_Xor (a b : Int) (w : World) : Calls Try.prog 138 #[.int .i64 a, .int .i64 b] w fun e w' => e = .returned (.int .i64 (wXor a b : Nat)) ∧ w = w' := by
  go_enter Try.func138, Try.ntmps138
  go_wp2_with (go_at_call 153; refine (ref_three3 _ _ _ _).mono ?_; rintro e w' ⟨rfl, rfl⟩)
  go_ret
  exact ⟨rfl, rfl⟩
theorem ref_Select (m a b : Int) (w : World) : Calls Try.prog 146 #[.int .i64 m, .int .i64 a, .int .i64 b] w fun e w' => e = .returned (.int .i64 (wSelect m a b : Nat)) ∧ w = w' := by
  go_enter Try.func146, Try.ntmps146
  go_wp2_with (go_at_call 153; refine (ref_three4 _ _ _ _).mono ?_; rintro e w' ⟨rfl, rfl⟩)
  go_ret
  exact ⟨rfl, rfl⟩
end Go.Proofs.Ytiaimceefkdchaa
