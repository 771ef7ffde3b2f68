/- Plain laws of the regions: an address of one region that may be written, with one bit turned, lies in no other one; a word lies in a region just if its bytes do. -/
import Derived.Test.YtgipelnjbpkfjaaLives5
import Derived.Test.YtgipelnjbpkfjaaRgOpen
namespace Go.Proofs.Ytgipelnjbpkfjaa
open Go.RowKit

def mmHi : Nat → Nat
  | 1 => 8193
  | 2 => 8194
  | 3 => 8196
  | 4 => 8200
  | 5 => 8208
  | 6 => 8224
  | _ => 0
theorem check_ok {i o r f : Int} (h : mmCheck i o r f = 0) : (0 ≤ i ∧ i ≤ 65536 ∧ i % 4 = 0) ∧ (0 ≤ o ∧ o ≤ 65536 ∧ o % 4 = 0) ∧ (4 ≤ r ∧ r ≤ 65536 ∧ r % 4 = 0) ∧ (0 ≤ f ∧ f ≤ 262144) := by
  unfold mmCheck szBad at h
  split at h
  · simp at h
  · split at h
    · simp at h
    · omega
theorem seek_yes {i o r f a p : Int} (h : mmCheck i o r f = 0) (hs : mmSeek a 1 true (mmRegions i o r f) 0 = (p, 0)) : ∃ k : Nat, 1 ≤ k ∧ k < 7 ∧ p = (k : Int) ∧ a / 65536 = (mmHi k : Nat) := by
  obtain ⟨h1, h2, h3, h4⟩ := check_ok h
  unfold mmRegions at hs
  simp only [mmSeek, hasB, Bool.and_true, Bool.not_true, Bool.and_false, Bool.not_false, if_true, Bool.false_eq_true, if_false] at hs
  split at hs
  · simp at hs
  · split at hs
    · rename_i hx
      simp at hs hx
      exact ⟨1, by decide, by decide, hs.symm, by show a / 65536 = 8193; omega⟩
    · split at hs
      · rename_i hx
        simp at hs hx
        exact ⟨2, by decide, by decide, hs.symm, by show a / 65536 = 8194; omega⟩
      · split at hs
        · rename_i hx
          simp at hs hx
          exact ⟨3, by decide, by decide, hs.symm, by show a / 65536 = 8196; omega⟩
        · split at hs
          · rename_i hx
            simp at hs hx
            exact ⟨4, by decide, by decide, hs.symm, by show a / 65536 = 8200; omega⟩
          · split at hs
            · rename_i hx
              simp at hs hx
              exact ⟨5, by decide, by decide, hs.symm, by show a / 65536 = 8208; omega⟩
            · split at hs
              · rename_i hx
                simp at hs hx
                exact ⟨6, by decide, by decide, hs.symm, by show a / 65536 = 8224; omega⟩
              · simp at hs
theorem hi_apart : ∀ k k' j : Nat, 1 ≤ k → k < 7 → 1 ≤ k' → k' < 7 → j < 16 → mmHi k' ≠ mmHi k ^^^ 2 ^ j := by
  have key : ∀ k : Fin 7, ∀ k' : Fin 7, ∀ j : Fin 16, 1 ≤ k.val → 1 ≤ k'.val → mmHi k'.val ≠ mmHi k.val ^^^ 2 ^ j.val := by decide +kernel
  intro k k' j h1 h2 h3 h4 h5
  exact key ⟨k, h2⟩ ⟨k', h4⟩ ⟨j, h5⟩ h1 h3
theorem hi_inj : ∀ k k' : Nat, 1 ≤ k → k < 7 → 1 ≤ k' → k' < 7 → mmHi k = mmHi k' → k = k' := by
  have key : ∀ k : Fin 7, ∀ k' : Fin 7, 1 ≤ k.val → 1 ≤ k'.val → mmHi k.val = mmHi k'.val → k.val = k'.val := by decide +kernel
  intro k k' h1 h2 h3 h4 h5
  exact key ⟨k, h2⟩ ⟨k', h4⟩ h1 h3 h5
theorem xor_hi (a b : Nat) : (a ^^^ 2 ^ b) / 65536 = a / 65536 ^^^ (if b < 16 then 0 else 2 ^ (b - 16)) := by
  have e : (65536 : Nat) = 2 ^ 16 := by decide
  apply Nat.eq_of_testBit_eq
  intro i
  rw [e]
  simp only [Nat.testBit_div_two_pow, Nat.testBit_xor, Nat.testBit_two_pow]
  by_cases hb : b < 16
  · rw [if_pos hb, Nat.zero_testBit]
    have : ¬ b = i + 16 := by omega
    simp [this]
  · rw [if_neg hb, Nat.testBit_two_pow]
    have : (b = i + 16) ↔ (b - 16 = i) := by omega
    simp [this]
theorem far {i o r f a p q : Int} {b : Nat} (h : mmCheck i o r f = 0) (ha : 0 ≤ a) (hb : b < 32) (h1 : mmSeek a 1 true (mmRegions i o r f) 0 = (p, 0)) (h2 : mmSeek ((a.toNat ^^^ 2 ^ b : Nat) : Int) 1 true (mmRegions i o r f) 0 = (q, 0)) : q = p := by
  obtain ⟨k, k1, k2, rfl, k3⟩ := seek_yes h h1
  obtain ⟨k', k4, k5, rfl, k6⟩ := seek_yes h h2
  have e1 : a.toNat / 65536 = mmHi k := by omega
  have e2 : (a.toNat ^^^ 2 ^ b) / 65536 = mmHi k' := by omega
  rw [xor_hi, e1] at e2
  by_cases hb2 : b < 16
  · rw [if_pos hb2, Nat.xor_zero] at e2
    rw [hi_inj k k' k1 k2 k4 k5 e2]
  · rw [if_neg hb2] at e2
    exact absurd e2.symm (hi_apart k k' (b - 16) k1 k2 k4 k5 (by omega))
theorem lone {i o r f a p : Int} (h : mmCheck i o r f = 0) (ha : 0 ≤ a) (h1 : mmSeek a 1 true (mmRegions i o r f) 0 = (p, 0)) : ∀ n : Nat, n < 7 → (n : Int) ≠ p → ¬ (((mmRegions i o r f).getD n rgNone).base ≤ a ∧ a < ((mmRegions i o r f).getD n rgNone).base + ((mmRegions i o r f).getD n rgNone).len) := by
  obtain ⟨k, k1, k2, rfl, k3⟩ := seek_yes h h1
  obtain ⟨h1, h2, h3, h4⟩ := check_ok h
  intro n hn hne ⟨g1, g2⟩
  have hk : 65536 * 8193 ≤ a := by
    have : ∀ k : Nat, 1 ≤ k → k < 7 → 8193 ≤ mmHi k := by
      intro k k1 k2
      have : k = 1 ∨ k = 2 ∨ k = 3 ∨ k = 4 ∨ k = 5 ∨ k = 6 := by omega
      rcases this with rfl | rfl | rfl | rfl | rfl | rfl <;> decide
    have := this k k1 k2
    omega
  have hcases : n = 0 ∨ n = 1 ∨ n = 2 ∨ n = 3 ∨ n = 4 ∨ n = 5 ∨ n = 6 := by omega
  have hn2 : n ≠ 0 → a / 65536 = (mmHi n : Nat) := by
    intro h0
    rcases hcases with rfl | rfl | rfl | rfl | rfl | rfl | rfl <;> simp [mmRegions, List.getD] at g1 g2 <;> simp only [mmHi] <;> omega
  by_cases h0 : n = 0
  · subst h0
    simp [mmRegions, List.getD] at g1 g2
    omega
  · have := hn2 h0
    have := hi_inj k n k1 k2 (by omega) hn (by omega)
    omega
theorem wrapi64 (n : Int) : IntKind.i64.wrap n = wrap64 n := by
  simp only [IntKind.wrap, IntKind.bits, IntKind.signed, wrap64]
  simp
  split <;> omega
theorem xor_i64 (x y : Nat) (hx : x < 9223372036854775808) (hy : y < 9223372036854775808) : bits .xor .i64 (x : Int) (y : Int) = ((x ^^^ y : Nat) : Int) := by
  have hz : x ^^^ y < 2 ^ 63 := Nat.xor_lt_two_pow (by omega) (by omega)
  show IntKind.i64.wrap ((BitVec.ofInt 64 (x : Int) ^^^ BitVec.ofInt 64 (y : Int)).toNat : Int) = _
  rw [BitVec.toNat_xor, BitVec.toNat_ofInt, BitVec.toNat_ofInt]
  have e1 : ((x : Int) % (2 ^ 64 : Nat)).toNat = x := by omega
  have e2 : ((y : Int) % (2 ^ 64 : Nat)).toNat = y := by omega
  rw [e1, e2, wrapi64]
  unfold wrap64; omega
theorem flip_i64 (a : Int) (b : Nat) (h0 : 0 ≤ a) (h1 : a < 4294967296) (hb : b < 32) : bits .xor .i64 a (wrap64 (2 ^ b)) = ((a.toNat ^^^ 2 ^ b : Nat) : Int) := by
  have hp : 2 ^ b ≤ 2 ^ 31 := Nat.pow_le_pow_right (by decide) (by omega)
  have e : (2 : Int) ^ b = ((2 ^ b : Nat) : Int) := by rw [Int.natCast_pow]; rfl
  rw [e]
  have hp' : 2 ^ b ≤ 2147483648 := hp
  clear hp e
  generalize 2 ^ b = t at *
  rw [show wrap64 ((t : Nat) : Int) = ((t : Nat) : Int) by unfold wrap64; omega]
  obtain ⟨n, rfl⟩ := Int.eq_ofNat_of_zero_le h0
  rw [Int.toNat_natCast]
  exact xor_i64 n t (by omega) (by omega)
theorem flip_lt (a : Int) (b : Nat) (h0 : 0 ≤ a) (h1 : a < 4294967296) (hb : b < 32) : a.toNat ^^^ 2 ^ b < 4294967296 :=
  Nat.xor_lt_two_pow (n := 32) (by omega) (Nat.pow_lt_pow_right (by decide) hb)
theorem find_one (xs : List Rg) (a : Int) (write : Bool) : mmFind xs a 1 write = mmSeek a 1 write xs 0 := by
  unfold mmFind; rw [if_neg (by decide), if_neg (by rw [Int.tmod_one]; decide)]
end Go.Proofs.Ytgipelnjbpkfjaa
