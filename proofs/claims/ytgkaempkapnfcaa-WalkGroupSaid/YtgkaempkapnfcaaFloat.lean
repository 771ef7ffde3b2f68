/- Whole numbers of less than 54 bits in floating point (binary64): sums, differences, products and comparisons of them are exact. No condition but those that each theorem names. -/
import Derived.WalkKit
import Derived.WalkLawsBesides
namespace Go.Proofs.Ytgkaempkapnfcaa
open Ieee

/-- 2^53. -/
def big : Nat := 9007199254740992
/-- The word stands for this whole number. -/
def IsF (x : Nat) (n : Int) : Prop := ∃ s m, ∃ q : Nat, double.read x = .number s m (-(q : Int)) ∧ signed s m 0 = n * ((2 ^ q : Nat) : Int)

theorem signed_shift (s : Bool) (m k : Nat) : signed s m k = signed s m 0 * ((2 ^ k : Nat) : Int) := by
  unfold signed
  cases s <;> simp [Nat.shiftLeft_eq, Int.neg_mul]
theorem signed_natAbs (s : Bool) (m : Nat) : (signed s m 0).natAbs = m := by
  unfold signed; cases s <;> simp
theorem cut_exact (s : Bool) (n drop : Nat) (hd : drop ≤ n.log2 + 2) (h : n % 2 ^ drop = 0) : Toward.even.cut s n drop = n / 2 ^ drop := by
  unfold Toward.cut
  have h1 : 0 < 2 ^ drop := Nat.pow_pos (by decide)
  simp only [Nat.min_eq_left hd, Nat.one_shiftLeft, h]
  simp
theorem log2_mul (v q : Nat) (h : v ≠ 0) : (v * 2 ^ q).log2 = v.log2 + q := by
  induction q with
  | zero => simp
  | succ q ih =>
    have hp : 0 < 2 ^ q := Nat.pow_pos (by decide)
    have hv : v * 2 ^ q ≠ 0 := by have := Nat.mul_pos (Nat.pos_of_ne_zero h) hp; omega
    rw [Nat.pow_succ, ← Nat.mul_assoc, Nat.mul_comm (v * 2 ^ q), Nat.log2_two_mul hv, ih]; omega
theorem dbl_last : double.leastPlace = -1074 := by decide
theorem dbl_bin : double.binade = 4503599627370496 := by decide
theorem dbl_inf : double.infRung = 9218868437227405312 := by decide
theorem dbl_sw : double.signWeight = 9223372036854775808 := by decide

theorem read_normal (s : Bool) (k kept : Nat) (hk : k ≤ 1074) (h1 : 4503599627370496 ≤ kept) (h2 : kept < 9007199254740992) :
    double.read (double.word s ((1074 - k) * 4503599627370496 + kept)) = .number s kept (-(k : Int)) := by
  unfold Format.read Format.word
  rw [dbl_last, dbl_bin, dbl_inf, dbl_sw]
  have hr : (1074 - k) * 4503599627370496 + kept < 9218868437227405312 := by omega
  have hd : ((1074 - k) * 4503599627370496 + kept) / 4503599627370496 = 1074 - k + 1 := by omega
  have hm : ((1074 - k) * 4503599627370496 + kept) % 4503599627370496 = kept - 4503599627370496 := by omega
  generalize (1074 - k) * 4503599627370496 + kept = r at *
  have e1 : (if s = true then 9223372036854775808 + r else r) / 9223372036854775808 % 2 = if s = true then 1 else 0 := by cases s <;> simp <;> omega
  have e2 : (if s = true then 9223372036854775808 + r else r) % 9223372036854775808 = r := by cases s <;> simp <;> omega
  have e3 : ((if s = true then 1 else 0) == 1) = s := by cases s <;> rfl
  have e4 : ¬ r < 4503599627370496 := by omega
  have e5 : (-1074 : Int) + ((1074 - k + 1 - 1 : Nat) : Int) = -(k : Int) := by omega
  have e6 : 4503599627370496 + (kept - 4503599627370496) = kept := by omega
  simp only [e1, e2, e3, e4, hr, hd, hm, e5, e6, if_true, if_false]
theorem read_zero (s : Bool) : double.read (double.word s 0) = .number s 0 (-1074) := by
  unfold Format.read Format.word
  rw [dbl_last, dbl_bin, dbl_inf, dbl_sw]
  cases s <;> simp
theorem isF_write (s : Bool) (m q : Nat) (v : Nat) (hm : m = v * 2 ^ q) (hv : v < big) :
    ∃ m', ∃ q' : Nat, double.read (double.write (.number s m (-(q : Int)))) = .number s m' (-(q' : Int)) ∧ m' = v * 2 ^ q' := by
  show ∃ m', ∃ q' : Nat, double.read (double.nearest s m (-(q : Int))) = .number s m' (-(q' : Int)) ∧ m' = v * 2 ^ q'
  unfold Format.nearest
  by_cases h0 : m = 0
  · rw [if_pos h0, read_zero]
    have hv0 : v = 0 := by
      rcases Nat.eq_zero_or_pos v with h | h
      · exact h
      · have := Nat.mul_pos h (Nat.pow_pos (n := q) (by decide : 0 < 2)); omega
    subst hv0
    obtain ⟨q', hq'⟩ : ∃ q' : Nat, q' = 1074 := ⟨_, rfl⟩
    exact ⟨0, q', by rw [hq']; rfl, (Nat.zero_mul _).symm⟩
  · rw [if_neg h0, dbl_last, dbl_bin, dbl_inf]
    have hv0 : v ≠ 0 := by rintro rfl; simp at hm; exact h0 hm
    have hl : m.log2 = v.log2 + q := by
      rw [hm]; exact log2_mul v q hv0
    have hlv : v.log2 ≤ 52 := by
      have := (Nat.log2_lt hv0 (k := 53)).2 hv
      omega
    have hlast : max (-(q : Int) + (m.log2 : Int) - (double.fractionBits : Int)) (-1074) = -((52 - v.log2 : Nat) : Int) := by
      rw [hl, show (double.fractionBits : Int) = 52 from rfl]; omega
    simp only [hlast]
    have hp1 : 2 ^ v.log2 ≤ v := Nat.log2_self_le hv0
    have hp2 : v < 2 ^ (v.log2 + 1) := Nat.lt_log2_self
    generalize hk : v.log2 = k at *
    have hkept : Toward.even.cut s (m <<< (-(q : Int) - -((52 - k : Nat) : Int)).toNat) (-((52 - k : Nat) : Int) - -(q : Int)).toNat = v * 2 ^ (52 - k) := by
      rcases Nat.le_total q (52 - k) with hq | hq
      · have e1 : (-(q : Int) - -((52 - k : Nat) : Int)).toNat = 52 - k - q := by omega
        have e2 : (-((52 - k : Nat) : Int) - -(q : Int)).toNat = 0 := by omega
        rw [e1, e2, cut_exact _ _ _ (Nat.zero_le _) (Nat.mod_one _), Nat.pow_zero, Nat.div_one, Nat.shiftLeft_eq, hm, Nat.mul_assoc, ← Nat.pow_add]
        congr 2; omega
      · have e1 : (-(q : Int) - -((52 - k : Nat) : Int)).toNat = 0 := by omega
        have e2 : (-((52 - k : Nat) : Int) - -(q : Int)).toNat = q - (52 - k) := by omega
        have e3 : m = v * 2 ^ (52 - k) * 2 ^ (q - (52 - k)) := by
          rw [hm, Nat.mul_assoc, ← Nat.pow_add]; congr 2; omega
        rw [e1, e2, Nat.shiftLeft_zero, cut_exact _ _ _ (by rw [hl]; omega) (by rw [e3]; exact Nat.mul_mod_left _ _)]
        rw [e3]; exact Nat.mul_div_cancel _ (Nat.pow_pos (by decide))
    have hb1 : 4503599627370496 ≤ v * 2 ^ (52 - k) := by
      have := Nat.mul_le_mul_right (2 ^ (52 - k)) hp1
      rw [← Nat.pow_add, show k + (52 - k) = 52 by omega] at this
      exact this
    have hb2 : v * 2 ^ (52 - k) < 9007199254740992 := by
      have := (Nat.mul_lt_mul_right (a := 2 ^ (52 - k)) (Nat.pow_pos (by decide))).2 hp2
      rw [← Nat.pow_add, show k + 1 + (52 - k) = 53 by omega] at this
      exact this
    rw [hkept]
    have e4 : (-((52 - k : Nat) : Int) - -1074).toNat = 1074 - (52 - k) := by omega
    rw [e4, Nat.min_eq_left (by omega), read_normal s (52 - k) _ (by omega) hb1 hb2]
    exact ⟨_, _, rfl, rfl⟩
theorem IsF.write {s : Bool} {m q : Nat} {n : Int} (h : signed s m 0 = n * ((2 ^ q : Nat) : Int)) (hn : n.natAbs < big) : IsF (double.write (.number s m (-(q : Int)))) n := by
  have hm : m = n.natAbs * 2 ^ q := by
    have := congrArg Int.natAbs h
    rw [signed_natAbs, Int.natAbs_mul, Int.natAbs_natCast] at this
    exact this
  obtain ⟨m', q', h1, h2⟩ := isF_write s m q n.natAbs hm hn
  refine ⟨s, m', q', h1, ?_⟩
  have hpos : 0 < (2 ^ q : Nat) := Nat.pow_pos (by decide)
  rcases Int.natAbs_eq n with hn' | hn'
  · cases s with
    | false => unfold signed; simp only [Bool.false_eq_true, if_false, Nat.shiftLeft_zero]; rw [h2, Int.natCast_mul, ← hn']
    | true =>
      unfold signed at h
      simp only [if_true, Nat.shiftLeft_zero] at h
      have h0 : n.natAbs = 0 := by
        rw [hn', ← Int.natCast_mul] at h
        rcases Nat.eq_zero_or_pos n.natAbs with h3 | h3
        · exact h3
        · have := Nat.mul_pos h3 hpos; omega
      have hn0 : n = 0 := by omega
      subst hn0
      unfold signed; rw [h2]; simp
  · cases s with
    | true => unfold signed; simp only [if_true, Nat.shiftLeft_zero]; rw [h2, Int.natCast_mul, ← Int.neg_mul, ← hn']
    | false =>
      unfold signed at h
      simp only [Bool.false_eq_true, if_false, Nat.shiftLeft_zero] at h
      have h0 : n.natAbs = 0 := by
        rw [hn', Int.neg_mul, ← Int.natCast_mul] at h
        rcases Nat.eq_zero_or_pos n.natAbs with h3 | h3
        · exact h3
        · have := Nat.mul_pos h3 hpos; omega
      have hn0 : n = 0 := by omega
      subst hn0
      unfold signed; rw [h2]; simp
theorem signed_of (t : Int) (b : Bool) : signed (if t = 0 then b else decide (t < 0)) t.natAbs 0 = t := by
  unfold signed
  by_cases h : t = 0
  · subst h; cases b <;> simp
  · rw [if_neg h]
    by_cases h2 : t < 0
    · simp [h2]; omega
    · simp [h2]; omega
theorem IsF.sum {x y : Nat} {a b : Int} (hx : IsF x a) (hy : IsF y b) (h : (a + b).natAbs < big) : ∃ r, double.add x y = some r ∧ IsF r (a + b) := by
  obtain ⟨s, m, q, h1, h2⟩ := hx
  obtain ⟨t, n, p, h3, h4⟩ := hy
  unfold Format.add
  rw [h1, h3]
  simp only [Datum.sum, Option.map_some]
  have hb : min (-(q : Int)) (-(p : Int)) = -((max q p : Nat) : Int) := by omega
  rw [hb]
  have e1 : (-(q : Int) - -((max q p : Nat) : Int)).toNat = max q p - q := by omega
  have e2 : (-(p : Int) - -((max q p : Nat) : Int)).toNat = max q p - p := by omega
  rw [e1, e2]
  have e3 : signed s m (max q p - q) + signed t n (max q p - p) = (a + b) * ((2 ^ max q p : Nat) : Int) := by
    rw [signed_shift s, signed_shift t, h2, h4, Int.mul_assoc, Int.mul_assoc, ← Int.natCast_mul, ← Int.natCast_mul, ← Nat.pow_add, ← Nat.pow_add, show q + (max q p - q) = max q p by omega, show p + (max q p - p) = max q p by omega, Int.add_mul]
  rw [e3]
  exact ⟨_, rfl, IsF.write (signed_of _ _) h⟩
theorem IsF.opp {y : Nat} {b : Int} (hy : IsF y b) : ∃ s m, ∃ q : Nat, (double.read y).opposite = .number s m (-(q : Int)) ∧ signed s m 0 = -b * ((2 ^ q : Nat) : Int) := by
  obtain ⟨s, m, q, h1, h2⟩ := hy
  refine ⟨!s, m, q, by rw [h1]; rfl, ?_⟩
  rw [Int.neg_mul, ← h2]
  unfold signed; cases s <;> simp
theorem IsF.diff {x y : Nat} {a b : Int} (hx : IsF x a) (hy : IsF y b) (h : (a - b).natAbs < big) : ∃ r, double.sub x y = some r ∧ IsF r (a - b) := by
  obtain ⟨s, m, q, h1, h2⟩ := hx
  obtain ⟨t, n, p, h3, h4⟩ := hy.opp
  unfold Format.sub
  rw [h1, h3]
  simp only [Datum.sum, Option.map_some]
  have hb : min (-(q : Int)) (-(p : Int)) = -((max q p : Nat) : Int) := by omega
  rw [hb]
  have e1 : (-(q : Int) - -((max q p : Nat) : Int)).toNat = max q p - q := by omega
  have e2 : (-(p : Int) - -((max q p : Nat) : Int)).toNat = max q p - p := by omega
  rw [e1, e2]
  have e3 : signed s m (max q p - q) + signed t n (max q p - p) = (a - b) * ((2 ^ max q p : Nat) : Int) := by
    rw [signed_shift s, signed_shift t, h2, h4, Int.mul_assoc, Int.mul_assoc, ← Int.natCast_mul, ← Int.natCast_mul, ← Nat.pow_add, ← Nat.pow_add, show q + (max q p - q) = max q p by omega, show p + (max q p - p) = max q p by omega, Int.sub_eq_add_neg, Int.add_mul]
  rw [e3]
  exact ⟨_, rfl, IsF.write (signed_of _ _) h⟩
theorem signed_mul (s t : Bool) (m n : Nat) : signed (s ^^ t) (m * n) 0 = signed s m 0 * signed t n 0 := by
  unfold signed; cases s <;> cases t <;> simp [Int.neg_mul, Int.mul_neg]
theorem IsF.prod {x y : Nat} {a b : Int} (hx : IsF x a) (hy : IsF y b) (h : (a * b).natAbs < big) : ∃ r, double.mul x y = some r ∧ IsF r (a * b) := by
  obtain ⟨s, m, q, h1, h2⟩ := hx
  obtain ⟨t, n, p, h3, h4⟩ := hy
  unfold Format.mul
  rw [h1, h3]
  simp only [Datum.product, Option.map_some]
  rw [show (-(q : Int) + -(p : Int)) = -((q + p : Nat) : Int) by omega]
  refine ⟨_, rfl, IsF.write ?_ h⟩
  rw [signed_mul, h2, h4, Nat.pow_add, Int.natCast_mul]
  generalize ((2 ^ q : Nat) : Int) = u
  generalize ((2 ^ p : Nat) : Int) = v
  rw [Int.mul_assoc, Int.mul_assoc, Int.mul_left_comm u b v]
theorem IsF.ofInt {n : Int} (h : n.natAbs < big) : IsF (FloatKind.f64.nearest n) n := by
  have := IsF.write (s := decide (n < 0)) (m := n.natAbs) (q := 0) (n := n) (by
    rw [Nat.pow_zero, Int.natCast_one, Int.mul_one]
    unfold signed
    by_cases h2 : n < 0
    · simp [h2]; omega
    · simp [h2]; omega) h
  exact this
theorem IsF.toInt {x : Nat} {n : Int} (hx : IsF x n) : (double.read x).toInt .zero = some n := by
  obtain ⟨s, m, q, h1, h2⟩ := hx
  rw [h1]
  unfold Datum.toInt Datum.integral
  simp only
  rw [show (-(q : Int)).toNat = 0 by omega, show (- -(q : Int)).toNat = q by omega, Nat.shiftLeft_zero]
  have hm : m = n.natAbs * 2 ^ q := by
    have := congrArg Int.natAbs h2
    rw [signed_natAbs, Int.natAbs_mul, Int.natAbs_natCast] at this
    exact this
  have hpos : 0 < (2 ^ q : Nat) := Nat.pow_pos (by decide)
  have hc : Toward.zero.cut s m q = n.natAbs := by
    unfold Toward.cut
    simp only [Bool.toNat_false, Nat.add_zero, Nat.one_shiftLeft]
    rcases Nat.le_total q (m.log2 + 2) with hq | hq
    · rw [Nat.min_eq_left hq, hm]; exact Nat.mul_div_cancel _ hpos
    · have hn0 : n.natAbs = 0 := by
        rcases Nat.eq_zero_or_pos n.natAbs with h3 | h3
        · exact h3
        · have : m.log2 = n.natAbs.log2 + q := by rw [hm]; exact log2_mul _ q (by omega)
          omega
      rw [hm, hn0, Nat.zero_mul, Nat.zero_div]
  rw [hc]
  refine congrArg some ?_
  have key : signed s (n.natAbs * 2 ^ q) 0 = n * ((2 ^ q : Nat) : Int) := by rw [← hm]; exact h2
  have e : signed s (n.natAbs * 2 ^ q) 0 = signed s n.natAbs 0 * ((2 ^ q : Nat) : Int) := by
    unfold signed; cases s <;> simp [Int.neg_mul]
  rw [e] at key
  exact Int.eq_of_mul_eq_mul_right (by omega) key
theorem IsF.order {x y : Nat} {a b : Int} (hx : IsF x a) (hy : IsF y b) : double.order x y = some (compare a b) := by
  obtain ⟨s, m, q, h1, h2⟩ := hx
  obtain ⟨t, n, p, h3, h4⟩ := hy
  unfold Format.order
  rw [h1, h3]
  simp only [Datum.order]
  have hb : min (-(q : Int)) (-(p : Int)) = -((max q p : Nat) : Int) := by omega
  rw [hb]
  have e1 : (-(q : Int) - -((max q p : Nat) : Int)).toNat = max q p - q := by omega
  have e2 : (-(p : Int) - -((max q p : Nat) : Int)).toNat = max q p - p := by omega
  have e3 : signed s m (max q p - q) = a * ((2 ^ max q p : Nat) : Int) := by
    rw [signed_shift s, h2, Int.mul_assoc, ← Int.natCast_mul, ← Nat.pow_add, show q + (max q p - q) = max q p by omega]
  have e4 : signed t n (max q p - p) = b * ((2 ^ max q p : Nat) : Int) := by
    rw [signed_shift t, h4, Int.mul_assoc, ← Int.natCast_mul, ← Nat.pow_add, show p + (max q p - p) = max q p by omega]
  rw [e1, e2, e3, e4]
  have hpos : 0 < ((2 ^ max q p : Nat) : Int) := by have : 0 < (2 ^ max q p : Nat) := Nat.pow_pos (by decide); omega
  refine congrArg some ?_
  generalize ((2 ^ max q p : Nat) : Int) = c at *
  rcases Int.lt_trichotomy a b with hlt | rfl | hgt
  · have := Int.mul_lt_mul_of_pos_right hlt hpos
    rw [Int.compare_eq_lt.2 hlt, Int.compare_eq_lt.2 this]
  · rw [Int.compare_eq_eq.2 rfl, Int.compare_eq_eq.2 rfl]
  · have := Int.mul_lt_mul_of_pos_right hgt hpos
    rw [Int.compare_eq_gt.2 hgt, Int.compare_eq_gt.2 this]
end Go.Proofs.Ytgkaempkapnfcaa
