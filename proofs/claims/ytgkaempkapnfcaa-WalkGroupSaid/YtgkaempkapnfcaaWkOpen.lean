/- A walk of hauberkref36 that comes in as an argument: three whole numbers. -/
import Derived.Test.YtgkaempkapnfcaaOpen
import Derived.Test.YtgkaempkapnfcaaEvents
namespace Go.Proofs.Ytgkaempkapnfcaa
open Go.ChangeShapes Go.WideShapes Go.ChangeAt Go.RowKit
theorem wk_cells : Try.prog.cellsOf 33 = 3 := by kernel_rfl
theorem i64_wf {n : Int} (h : (Lit.int .i64 n).wf = true) : -9223372036854775808 ≤ n ∧ n ≤ 9223372036854775807 := bounds_i64 h
theorem open_walk {W : World} {H : Type} {enc : TypeId × Value → H} {v : Value} {d : DataW H} {ps : List MemPlace} {base : Nat} (hval : Value.okWide Try.prog W .any base 33 v)
    (hd : DataW.Trod enc Try.prog W 0 (fun _ => true) true 33 v d ps) (hlt : ∀ p ∈ ps, p.block < W.heap.size) (hw : ∀ n ∈ d.weights Try.prog 33, n ≤ reachBytes) :
    ∃ a b c : Int, v = .agg #[.int .i64 a, .int .i64 b, .int .i64 c] ∧ (-9223372036854775808 ≤ a ∧ a ≤ 9223372036854775807) ∧ (-9223372036854775808 ≤ b ∧ b ≤ 9223372036854775807) ∧ (-9223372036854775808 ≤ c ∧ c ≤ 9223372036854775807) := by
  have hval2 := hval
  simp only [Value.okWide, Try.underlying33] at hval2
  obtain ⟨cs, rfl, hsz, _⟩ := hval2
  have hop : Opens Try.prog W W.heap.size 33 (fun cs => ∃ a b c : Int, cs = [.int .i64 a, .int .i64 b, .int .i64 c] ∧ (-9223372036854775808 ≤ a ∧ a ≤ 9223372036854775807) ∧ (-9223372036854775808 ≤ b ∧ b ≤ 9223372036854775807) ∧ (-9223372036854775808 ≤ c ∧ c ≤ 9223372036854775807)) := by
    refine (opens_flat Try.underlying33 (by kernel_rfl) (fun _ v => ∃ n, v = .int .i64 n ∧ (Lit.int .i64 n).wf = true) ?_).mono ?_
    · intro i f hf
      match i, hf with
      | 0, hf | 1, hf | 2, hf => simp at hf; subst hf; exact opens_int1 Try.underlying3
      | i + 3, hf => simp at hf
    · intro cs ⟨hl, hf⟩
      rw [wk_cells] at hl
      match cs, hl with
      | [x0, x1, x2], _ =>
        obtain ⟨a, rfl, h1⟩ := hf 0 _ (by decide) rfl
        obtain ⟨b, rfl, h2⟩ := hf 1 _ (by decide) rfl
        obtain ⟨c, rfl, h3⟩ := hf 2 _ (by decide) rfl
        exact ⟨a, b, c, rfl, i64_wf h1, i64_wf h2, i64_wf h3⟩
  obtain ⟨a, b, c, he, h⟩ := hop.arg hd hlt hw
  refine ⟨a, b, c, ?_, h⟩
  obtain ⟨l⟩ := cs
  simp only [Value.cells] at he
  rw [he]
end Go.Proofs.Ytgkaempkapnfcaa
