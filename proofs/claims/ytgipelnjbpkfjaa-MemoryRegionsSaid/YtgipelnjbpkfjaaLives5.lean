/- The contract of Rail, and of hauberklaw05.lives: it returns true; what lay below the heap's old size is as it was. -/
import Derived.Test.YtgipelnjbpkfjaaFind2
namespace Go.Proofs.Ytgipelnjbpkfjaa
open Go.RowKit

def mmRail (k : Int) : Int := if k = 0 then 537133056 else if k = 1 then 537395200 else 0
theorem memmap_Rail (k : Int) (w : World) : Calls Try.prog 38 #[.int .i64 k] w fun e w' => e = .returned (.int .i64 (mmRail k)) ∧ w = w' := by
  by_cases h0 : k = 0
  · subst h0
    go_enter Try.func38, Try.ntmps38
    go_wp2
    go_ret
    exact ⟨rfl, rfl⟩
  · by_cases h1 : k = 1
    · subst h1
      go_enter Try.func38, Try.ntmps38
      go_wp2
      go_ret
      exact ⟨rfl, rfl⟩
    · rw [show mmRail k = 0 by unfold mmRail; rw [if_neg h0, if_neg h1]]
      have q0 : (k == 0) = false := by simpa using h0
      have q1 : (k == 1) = false := by simpa using h1
      clear h0 h1
      go_enter Try.func38, Try.ntmps38
      go_wp2
      go_ret
      exact ⟨rfl, rfl⟩
theorem fine_of (i o r f : Int) (h : mmCheck i o r f = 0) : ∀ x ∈ mmRegions i o r f, x.fine := by
  unfold mmCheck szBad at h
  split at h
  · simp at h
  · split at h
    · simp at h
    · intro x hx
      unfold mmRegions at hx
      simp only [List.mem_cons, List.not_mem_nil, or_false] at hx
      unfold Rg.fine
      rcases hx with rfl | rfl | rfl | rfl | rfl | rfl | rfl <;> simp only <;> omega
theorem law05_lives (w : World) : Calls Try.prog 19 #[] w fun e w' => e = .returned (.bool true) ∧ Below w.heap.size w w' := by
  have hc : mmCheck 8 4 8 64 = 0 := by decide
  have f1 : pairVal (mmFind (mmRegions 8 4 8 64) 537001984 4 true) = .tuple #[.int .i64 2, .int .i64 0] := by kernel_rfl
  have f2 : pairVal (mmFind (mmRegions 8 4 8 64) 537919492 4 false) = .tuple #[.int .i64 0, .int .i64 8] := by kernel_rfl
  have r1 : mmRail 1 = 537395200 := by decide
  have r0 : mmRail 0 = 537133056 := by decide
  have r2 : mmRail 2 = 0 := by decide
  have HF := Lib.hid (fine_of 8 4 8 64 hc)
  have F1 := Lib.hid f1
  have F2 := Lib.hid f2
  clear f1 f2
  go_enter Try.func19, Try.ntmps19
  go_wp2_with fail
  refine (memmap_Regions_yes 8 4 8 64 hc _).mono ?_
  rintro e w1 ⟨g, rfl, hg, hge, hb1⟩
  have hs := rgSl_of hg
  have HB1 := Lib.hid hb1
  have HS := Lib.hid hs
  clear hg hb1 hs hge hc
  go_wp2_with fail
  refine (memmap_Find (some ⟨g, 0, none⟩) 7 (mmRegions 8 4 8 64) _ _ _ (by decide) HF.out (by decide) _ HS.out).mono ?_
  rintro e w2 ⟨rfl, hb2⟩
  rw [F1.out]
  have HS2 := Lib.hid (HS.out.next hb2)
  have HB2 := Lib.hid hb2
  clear hb2
  go_wp2_with fail
  refine (memmap_Find (some ⟨g, 0, none⟩) 7 (mmRegions 8 4 8 64) _ _ _ (by decide) HF.out (by decide) _ HS2.out).mono ?_
  rintro e w3 ⟨rfl, hb3⟩
  rw [F2.out]
  have HB3 := Lib.hid hb3
  clear hb3
  go_wp2_with (go_at_call 38; refine (memmap_Rail _ _).mono ?_; rintro e w' ⟨rfl, rfl⟩)
  go_ret
  exact ⟨rfl, bch HB1.out (bch HB2.out HB3.out)⟩
end Go.Proofs.Ytgipelnjbpkfjaa
