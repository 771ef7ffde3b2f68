/- Plain laws of numbers of 32 bits: bytes and back, a bit flipped, a word turned round. No condition but those that each theorem names. -/
import Derived.Test.YtgkaempkapnfcaaBytes
import Derived.Test.YtgkaempkapnfcaaRingsM
namespace Go.Proofs.Ytgkaempkapnfcaa
open Go.RowKit
theorem u8_toNat (x : Nat) (h : x < 256) : (UInt8.ofNat ((x : Int)).toNat).toNat = x := by
  rw [Int.toNat_natCast]; simp [UInt8.toNat_ofNat', h]
/-- A byte of a word. -/
def wByte (a : Int) (d : Nat) : UInt8 := UInt8.ofNat ((((wd a / d % 256 : Nat)) : Int)).toNat
theorem wBytes_eq (a : Int) : wBytes a = ⟨#[wByte a 1, wByte a 256, wByte a 65536, wByte a 16777216]⟩ := by
  unfold wBytes str4 wByte
  rw [Nat.div_one]; rfl
theorem wByte_toNat (a : Int) (d : Nat) : (wByte a d).toNat = wd a / d % 256 := u8_toNat _ (by omega)
theorem le4_wBytes (a : Int) : le4 (wByte a 1) (wByte a 256) (wByte a 65536) (wByte a 16777216) = wd a := by
  have h := wd_lt a
  unfold le4
  rw [wByte_toNat, wByte_toNat, wByte_toNat, wByte_toNat]; omega
theorem sh_pow_lt (n : Int) : 2 ^ sh n < 4294967296 := Nat.lt_of_le_of_lt (pow_sh n) (by decide)
theorem wFlip_lt (a i : Int) : wFlip a i < 4294967296 := Nat.xor_lt_two_pow (n := 32) (wd_lt a) (sh_pow_lt i)
theorem wFlip_back (a i : Int) : wFlip (wFlip a i : Nat) i = wd a := by
  unfold wFlip
  rw [wd_nat (wd a ^^^ 2 ^ sh i) (wFlip_lt a i), Nat.xor_assoc, Nat.xor_self, Nat.xor_zero]
theorem sh_wd (i : Int) : wd i % 32 = sh i := by unfold wd sh; omega
theorem back_same (i k : Int) : (((wd i : Nat) : Int) % 32 == ((wd k : Nat) : Int) % 32) = decide (sh i = sh k) := by
  have h1 := sh_wd i
  have h2 := sh_wd k
  rw [← beq_cast, ← h1, ← h2]; rfl
theorem back_bit (a i k : Int) : (((wBit (wFlip a i : Nat) k : Nat) : Int) != (wBit a k : Nat)) = decide (sh i = sh k) := by
  have e : (((wBit (wFlip a i : Nat) k : Nat) : Int) != (wBit a k : Nat)) = decide (sh i = sh k) := by
    unfold wBit
    rw [wd_nat _ (wFlip_lt a i)]
    unfold wFlip
    rw [bit_test, bit_test, Nat.testBit_xor, Nat.testBit_two_pow]
    by_cases h : sh i = sh k
    · rw [decide_eq_true h]; cases (wd a).testBit (sh k) <;> rfl
    · rw [decide_eq_false h]; cases (wd a).testBit (sh k) <;> rfl
  exact e
theorem ror_round (x n : Nat) (hx : x < 4294967296) (hn : n ≤ 32) : rorS (rorS x n) (32 - n) = x := by
  have e : (4294967296 : Nat) = 2 ^ (32 - n) * 2 ^ n := by rw [← Nat.pow_add, show 32 - n + n = 32 by omega]
  have h1 : x / 2 ^ n < 2 ^ (32 - n) := Nat.div_lt_of_lt_mul (by rw [Nat.mul_comm, ← e]; exact hx)
  have hp : 0 < 2 ^ (32 - n) := Nat.pow_pos (by decide)
  unfold rorS
  rw [show 32 - (32 - n) = n by omega, Nat.add_mul_div_right _ _ hp, Nat.div_eq_of_lt h1, Nat.add_mul_mod_self_right, Nat.mod_eq_of_lt h1, Nat.zero_add, Nat.mul_comm]
  exact Nat.mod_add_div x (2 ^ n)
theorem wRor_eq (a n : Int) : wRor a n = rorS (wd a) (sh n) := rfl
theorem wRor_round (a i : Int) : wRor (wRor a (wd i % 32 : Nat) : Nat) (32 - (wd i % 32 : Nat)) = wd a := by
  have hs : sh ((wd i % 32 : Nat) : Int) = wd i % 32 := sh_nat _ (by omega)
  rw [wRor_eq, wRor_eq, hs]
  generalize hk : wd i % 32 = k
  have hk' : k < 32 := by omega
  rw [wd_nat _ (rorS_lt _ _ (wd_lt a) (by omega))]
  rcases Nat.eq_zero_or_pos k with h0 | h0
  · subst h0
    rw [show sh (32 - ((0 : Nat) : Int)) = 0 from rfl, rorS_zero, rorS_zero]
  · have : sh (32 - (k : Int)) = 32 - k := by unfold sh; omega
    rw [this]; exact ror_round _ _ (wd_lt a) (by omega)
end Go.Proofs.Ytgkaempkapnfcaa
