/- Plain laws of the regions: a word lies in a region just if all its four bytes do, and then in the same one. -/
import Derived.Test.YtgipelnjbpkfjaaFarM
namespace Go.Proofs.Ytgipelnjbpkfjaa
open Go.RowKit

theorem seek_cases (a n : Int) (write : Bool) : ∀ (xs : List Rg) (k : Nat), (mmSeek a n write xs k = (0, 8)) ∨ ∃ j, j < xs.length ∧ mmSeek a n write xs k = (((k + j : Nat) : Int), 0) ∧ hasB (xs.getD j rgNone) a n = true ∧ (write = false ∨ (xs.getD j rgNone).write = true)
  | [], k => .inl rfl
  | x :: xs, k => by
    unfold mmSeek
    by_cases h : hasB x a n = true
    · rw [if_pos h]
      by_cases hw : (write && !x.write) = true
      · rw [if_pos hw]; exact .inl rfl
      · rw [if_neg hw]
        refine .inr ⟨0, by simp, by simp, by simpa [List.getD] using h, ?_⟩
        simp [List.getD]
        cases write <;> cases hx : x.write <;> simp_all
    · rw [if_neg h]
      rcases seek_cases a n write xs (k + 1) with h1 | ⟨j, h1, h2, h3, h4⟩
      · exact .inl h1
      · refine .inr ⟨j + 1, by simp; omega, ?_, by simpa [List.getD] using h3, by simpa [List.getD] using h4⟩
        rw [h2, show k + 1 + j = k + (j + 1) by omega]
/-- What lies in a region is found there. -/
theorem seek_hits {i o r f a n : Int} {write : Bool} (h : mmCheck i o r f = 0) (hn : 1 ≤ n) (j : Nat) (hj : j < 7) (hh : hasB ((mmRegions i o r f).getD j rgNone) a n = true) (hw : write = false ∨ ((mmRegions i o r f).getD j rgNone).write = true) :
    mmSeek a n write (mmRegions i o r f) 0 = ((j : Int), 0) := by
  obtain ⟨h1, h2, h3, h4⟩ := check_ok h
  have hc : j = 0 ∨ j = 1 ∨ j = 2 ∨ j = 3 ∨ j = 4 ∨ j = 5 ∨ j = 6 := by omega
  have no : ∀ (x : Rg), ¬ (x.base ≤ a ∧ n ≤ x.len ∧ a - x.base ≤ x.len - n) → hasB x a n = false := by
    intro x hx
    unfold hasB
    cases hb : (decide (x.base ≤ a) && (decide (n ≤ x.len) && decide (a - x.base ≤ x.len - n)))
    · rfl
    · simp at hb; exact absurd hb hx
  rcases hc with rfl | rfl | rfl | rfl | rfl | rfl | rfl
  all_goals
    simp [mmRegions, List.getD] at hh hw
    have hh2 := hh
    unfold hasB at hh2
    simp at hh2
    unfold mmRegions
    simp only [mmSeek]
    repeat (rw [no _ (by simp only; omega), if_neg (by decide)])
    rw [hh]
    cases write <;> simp_all
theorem word_bytes {i o r f a p : Int} {write : Bool} (h : mmCheck i o r f = 0) (h4 : mmFind (mmRegions i o r f) a 4 write = (p, 0)) (ha : 0 ≤ a) : a % 4 = 0 ∧ ∀ k : Nat, k < 4 → mmSeek (a + k) 1 write (mmRegions i o r f) 0 = (p, 0) := by
  unfold mmFind at h4
  rw [if_neg (by decide)] at h4
  by_cases hm : a.tmod 4 = 0
  · rw [if_neg (by omega)] at h4
    rw [Int.tmod_eq_emod_of_nonneg ha] at hm
    refine ⟨hm, fun k hk => ?_⟩
    rcases seek_cases a 4 write (mmRegions i o r f) 0 with h1 | ⟨j, h1, h2, h3, h5⟩
    · rw [h1] at h4; simp at h4
    · rw [h2] at h4
      simp at h4
      subst h4
      have hh : hasB ((mmRegions i o r f).getD j rgNone) (a + k) 1 = true := by
        unfold hasB at h3 ⊢
        simp at h3 ⊢
        omega
      exact seek_hits h (by decide) j h1 hh h5
  · rw [if_pos hm] at h4; simp at h4
theorem bytes_word {i o r f a : Int} {write : Bool} (h : mmCheck i o r f = 0) (ha : 0 ≤ a) (hm : a % 4 = 0) (hb : ∀ k : Nat, k < 4 → (mmSeek (a + k) 1 write (mmRegions i o r f) 0).2 = 0) : (mmFind (mmRegions i o r f) a 4 write).2 = 0 := by
  unfold mmFind
  rw [if_neg (by decide), if_neg (by rw [Int.tmod_eq_emod_of_nonneg ha]; omega)]
  obtain ⟨g1, g2, g3, g4⟩ := check_ok h
  have hb0 := hb 0 (by decide)
  have hb3 := hb 3 (by decide)
  rcases seek_cases (a + (0 : Nat)) 1 write (mmRegions i o r f) 0 with h1 | ⟨j, h1, h2, h3, h5⟩
  · rw [h1] at hb0; simp at hb0
  · rcases seek_cases (a + (3 : Nat)) 1 write (mmRegions i o r f) 0 with k1 | ⟨j', k1, k2, k3, k5⟩
    · rw [k1] at hb3; simp at hb3
    · have hj : j < 7 := h1
      have hj' : j' < 7 := k1
      have hh : hasB ((mmRegions i o r f).getD j rgNone) a 4 = true := by
        have hc : j = 0 ∨ j = 1 ∨ j = 2 ∨ j = 3 ∨ j = 4 ∨ j = 5 ∨ j = 6 := by omega
        have hc' : j' = 0 ∨ j' = 1 ∨ j' = 2 ∨ j' = 3 ∨ j' = 4 ∨ j' = 5 ∨ j' = 6 := by omega
        clear hb hb0 hb3 h2 k2 h5 k5 h1 k1 h
        unfold hasB at h3 k3 ⊢
        rcases hc with rfl | rfl | rfl | rfl | rfl | rfl | rfl
        · rcases hc' with rfl | rfl | rfl | rfl | rfl | rfl | rfl <;> simp [mmRegions, List.getD] at h3 k3 ⊢ <;> omega
        all_goals
          simp [mmRegions, List.getD] at h3 ⊢
          omega
      rw [seek_hits h (by decide) j hj hh h5]
/-- Do all of the first ones say yes? -/
def allW (q : Nat → Bool) (z : Bool) : Nat → Bool
  | 0 => z
  | k + 1 => allW q z k && q k
theorem allW_yes (q : Nat → Bool) (z : Bool) : ∀ n, allW q z n = true → z = true ∧ ∀ k, k < n → q k = true
  | 0, h => ⟨h, fun k hk => by omega⟩
  | n + 1, h => by
    unfold allW at h
    rw [Bool.and_eq_true] at h
    have := allW_yes q z n h.1
    refine ⟨this.1, fun k hk => ?_⟩
    rcases Nat.lt_or_ge k n with h1 | h1
    · exact this.2 k h1
    · obtain rfl : k = n := by omega
      exact h.2
end Go.Proofs.Ytgipelnjbpkfjaa
