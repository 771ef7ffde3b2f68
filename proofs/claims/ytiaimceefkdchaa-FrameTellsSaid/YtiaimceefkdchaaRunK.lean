/- Contracts of ir.Run (whole), of hauberklaw17.small and hauberklaw17.lives. No condition but those that each theorem names. -/
import Derived.Test.YtiaimceefkdchaaRunJ
import Derived.Test.YtiaimceefkdchaaFrameL
namespace Go.Proofs.Ytiaimceefkdchaa
open Go.RowKit
set_option linter.unusedVariables false
theorem ir_Run (p : Ir) (av bv : Value) (hf : p.fine) (input : ByteArray) (hsz : input.size ≤ maxLen) (budget : Int) (w : World) (hI : IrRep w w.heap.size p av bv) :
    Calls Try.prog 43 #[irVal p av bv, .string input, .int .i64 budget] w (RunPost (irRun p input budget) w) := by
  unfold irRun
  by_cases he : irErr p = 0
  · rw [if_neg (by simpa using he)]
    by_cases h : (input.size : Int) ≠ p.inp ∨ ¬ (0 ≤ budget ∧ budget ≤ 67108864)
    · rw [if_pos h]
      exact run_arg p av bv hf input hsz budget w hI he h
    · rw [if_neg h]
      have h1 : (input.size : Int) = p.inp := Decidable.byContradiction fun hh => h (Or.inl hh)
      have h2 : 0 ≤ budget ∧ budget ≤ 67108864 := Decidable.byContradiction fun hh => h (Or.inr hh)
      exact run_go p av bv hf input budget w hI he h1 h2.1 h2.2
  · rw [if_pos he]
    exact run_bad p av bv hf input budget w hI he
/-- A slice of two elements in a block of its own. -/
theorem slRep_two {T : Type} {E : Enc T} {w : World} {B g : Nat} {t : TypeId} {es fs : List Value} {x y : T} (hb : w.heap[g]? = some (.cells (es ++ fs).toArray t (0, 0))) (hB : g < B) (hr : E.rep w B es x) (hq : E.rep w B fs y) : SlRep E w B (.slice (some ⟨g, 0, none⟩) 2 2) [x, y] := by
  have hl := E.len hr
  refine ⟨some ⟨g, 0, none⟩, 2, rfl, by simp, fun k u hk => ?_⟩
  match k, hk with
  | 0, hk =>
    simp at hk
    subst hk
    refine ⟨g, 0, es, rfl, hB, hr, fun j u hu => ?_⟩
    have hj : j < es.length := (List.getElem?_eq_some_iff.1 hu).1
    have := (cell_of_blk hb j).1
    rw [show 0 + 0 * E.size + j = j by omega, this]
    simp only [List.getElem?_toArray]
    rw [List.getElem?_append_left hj, hu]
  | 1, hk =>
    simp at hk
    subst hk
    refine ⟨g, 0, fs, rfl, hB, hq, fun j u hu => ?_⟩
    have := (cell_of_blk hb (E.size + j)).1
    rw [show 0 + 1 * E.size + j = E.size + j by omega, this]
    simp only [List.getElem?_toArray]
    rw [List.getElem?_append_right (by omega), hl, show E.size + j - E.size = j by omega, hu]
  | k + 2, hk => simp at hk
def smallIr : Ir := ⟨2, [⟨4, 1, 2, 0⟩], [⟨[⟨1, 0, 0, 0, 0, 7⟩, ⟨19, 0, 1, 0, 0, 0⟩], ⟨3, 0, 0, 0⟩⟩], 0, 4⟩
theorem small_fine : smallIr.fine := by
  refine ⟨intR_small _ (by decide) (by decide), intR_small _ (by decide) (by decide), intR_small _ (by decide) (by decide), by decide, by decide, ?_, ?_⟩
  · intro x hx
    obtain rfl : x = ⟨4, 1, 2, 0⟩ := by simpa [smallIr] using hx
    exact ⟨intR_small _ (by decide) (by decide), intR_small _ (by decide) (by decide), intR_small _ (by decide) (by decide), intR_small _ (by decide) (by decide)⟩
  · intro x hx
    obtain rfl : x = ⟨[⟨1, 0, 0, 0, 0, 7⟩, ⟨19, 0, 1, 0, 0, 0⟩], ⟨3, 0, 0, 0⟩⟩ := by simpa [smallIr] using hx
    refine ⟨by decide, ?_, intR_small _ (by decide) (by decide), intR_small _ (by decide) (by decide), intR_small _ (by decide) (by decide), intR_small _ (by decide) (by decide)⟩
    intro o ho
    have ho : o = ⟨1, 0, 0, 0, 0, 7⟩ ∨ o = ⟨19, 0, 1, 0, 0, 0⟩ := by simpa using ho
    rcases ho with rfl | rfl <;> exact ⟨intR_small _ (by decide) (by decide), intR_small _ (by decide) (by decide), intR_small _ (by decide) (by decide), intR_small _ (by decide) (by decide), intR_small _ (by decide) (by decide), intR_small _ (by decide) (by decide)⟩
theorem small_err : irErr smallIr = 0 := by decide
theorem small_3 : irRun smallIr bE 3 = (⟨#[7, 0, 0, 0]⟩, 0) := by
  unfold irRun
  rw [if_neg (by rw [small_err]; decide), if_neg (by decide)]
  decide
theorem small_2 : irRun smallIr bE 2 = (bE, 20) := by
  unfold irRun
  rw [if_neg (by rw [small_err]; decide), if_neg (by decide)]
  decide
end Go.Proofs.Ytiaimceefkdchaa
