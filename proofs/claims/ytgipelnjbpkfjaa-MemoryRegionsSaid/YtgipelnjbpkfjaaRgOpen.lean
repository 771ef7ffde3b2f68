/- Sizes and lists of regions that come in as arguments: what their cells hold. -/
import Derived.Test.YtgipelnjbpkfjaaOpen
import Derived.Test.YtgipelnjbpkfjaaRegions
namespace Go.Proofs.Ytgipelnjbpkfjaa
open Go.ChangeShapes Go.WideShapes Go.ChangeAt Go.RowKit
def I64 (n : Int) : Prop := -9223372036854775808 ≤ n ∧ n ≤ 9223372036854775807
theorem i64_wf {n : Int} (h : (Lit.int .i64 n).wf = true) : I64 n := bounds_i64 h
theorem sz_cells : Try.prog.cellsOf 23 = 3 := by kernel_rfl
theorem opens_sizes {W : World} {B : Nat} : Opens Try.prog W B 23 (fun cs => ∃ a b c : Int, cs = [.int .i64 a, .int .i64 b, .int .i64 c] ∧ I64 a ∧ I64 b ∧ I64 c) := by
  refine (opens_flat Try.underlying23 (by kernel_rfl) (fun _ v => ∃ n, v = .int .i64 n ∧ (Lit.int .i64 n).wf = true) ?_).mono ?_
  · intro i f hf
    match i, hf with
    | 0, hf | 1, hf | 2, hf => simp at hf; subst hf; exact opens_int1 Try.underlying3
    | i + 3, hf => simp at hf
  · intro cs ⟨hl, hf⟩
    rw [sz_cells] at hl
    match cs, hl with
    | [x0, x1, x2], _ =>
      obtain ⟨a, rfl, h1⟩ := hf 0 _ (by decide) rfl
      obtain ⟨b, rfl, h2⟩ := hf 1 _ (by decide) rfl
      obtain ⟨c, rfl, h3⟩ := hf 2 _ (by decide) rfl
      exact ⟨a, b, c, rfl, i64_wf h1, i64_wf h2, i64_wf h3⟩
set_option maxRecDepth 100000 in
theorem open_sizes {W : World} {H : Type} {enc : TypeId × Value → H} {v : Value} {d : DataW H} {ps : List MemPlace} {base : Nat} (hval : Value.okWide Try.prog W .any base 23 v)
    (hd : DataW.Trod enc Try.prog W 0 (fun _ => true) true 23 v d ps) (hlt : ∀ p ∈ ps, p.block < W.heap.size) (hw : ∀ n ∈ d.weights Try.prog 23, n ≤ reachBytes) :
    ∃ a b c : Int, v = .agg #[.int .i64 a, .int .i64 b, .int .i64 c] ∧ I64 a ∧ I64 b ∧ I64 c := by
  have hval2 := hval
  simp only [Value.okWide, Try.underlying23] at hval2
  obtain ⟨cs, rfl, hsz, _⟩ := hval2
  obtain ⟨a, b, c, he, h⟩ := (opens_sizes (W := W) (B := W.heap.size)).arg hd hlt hw
  refine ⟨a, b, c, ?_, h⟩
  obtain ⟨l⟩ := cs
  simp only [Value.cells] at he
  rw [he]
theorem rg_cells : Try.prog.cellsOf 37 = 3 := by kernel_rfl
theorem rg_bytes : Try.prog.bytesOf 37 = 24 := by kernel_rfl
theorem opens_rg {W : World} {B : Nat} : Opens Try.prog W B 37 (fun cs => ∃ x : Rg, cs = rgCell x ∧ I64 x.base ∧ I64 x.len) := by
  refine (opens_flat Try.underlying37 (by kernel_rfl) (fun i v => (i < 2 → ∃ n, v = .int .i64 n ∧ (Lit.int .i64 n).wf = true) ∧ (i = 2 → ∃ b, v = .bool b)) ?_).mono ?_
  · intro i f hf
    match i, hf with
    | 0, hf | 1, hf => simp at hf; subst hf; exact (opens_int1 Try.underlying3).mono fun cs ⟨v, h1, h2⟩ => ⟨v, h1, fun _ => h2, fun h => by omega⟩
    | 2, hf => simp at hf; subst hf; exact (opens_bool Try.underlying4).mono fun cs ⟨b, h1⟩ => ⟨_, h1, fun h => by omega, fun _ => ⟨b, rfl⟩⟩
    | i + 3, hf => simp at hf
  · intro cs ⟨hl, hf⟩
    rw [rg_cells] at hl
    match cs, hl with
    | [x0, x1, x2], _ =>
      obtain ⟨a, rfl, h1⟩ := (hf 0 _ (by decide) rfl).1 (by decide)
      obtain ⟨b, rfl, h2⟩ := (hf 1 _ (by decide) rfl).1 (by decide)
      obtain ⟨c, rfl⟩ := (hf 2 _ (by decide) rfl).2 rfl
      exact ⟨⟨a, b, c⟩, rfl, i64_wf h1, i64_wf h2⟩

set_option maxRecDepth 100000 in
theorem open_regions {W : World} {H : Type} {enc : TypeId × Value → H} {v : Value} {d : DataW H} {ps : List MemPlace} {base : Nat} (hval : Value.okWide Try.prog W .any base 24 v)
    (hd : DataW.Trod enc Try.prog W 0 (fun _ => true) true 24 v d ps) (hlt : ∀ p ∈ ps, p.block < W.heap.size) (hw : ∀ n ∈ d.weights Try.prog 24, n ≤ reachBytes) :
    ∃ A c, ∃ xs : List Rg, v = .slice A xs.length c ∧ xs.length ≤ 5864062014805 ∧ RgSl W W.heap.size A xs ∧ ∀ x ∈ xs, I64 x.base ∧ I64 x.len := by
  obtain ⟨A, len, cap, rfl⟩ := okWide_slice Try.underlying24 hval
  obtain ⟨A', len', cap', he, h1, h2, h3, h4, h5, h6⟩ := (opens_slice Try.underlying24 _ (opens_rg (W := W) (B := W.heap.size))).arg hd hlt hw
  have he' : A = A' ∧ len = len' ∧ cap = cap' := by simpa [Value.cells] using he
  obtain ⟨rfl, rfl, rfl⟩ := he'
  rw [rg_bytes] at h3
  have hx : ∀ i, i < len → ∃ e : Rg, (I64 e.base ∧ I64 e.len) ∧ ∃ a, A = some a ∧ ∀ j u, (rgCell e)[j]? = some u → W.cell? (a.add (i * 3 + j)) = some u := by
    intro i hi
    obtain ⟨a, es, ha, _, ⟨e, rfl, hi1, hi2⟩, hc⟩ := h6 i hi
    rw [rg_cells] at hc
    exact ⟨e, ⟨hi1, hi2⟩, a, ha, hc⟩
  have hl : ∃ xs : List Rg, xs.length = len ∧ (∀ x ∈ xs, I64 x.base ∧ I64 x.len) ∧ ∀ i, i < len → ∃ a, A = some a ∧ ∀ j u, (rgCell (xs.getD i rgNone))[j]? = some u → W.cell? (a.add (i * 3 + j)) = some u := by
    clear h1 h3 h4 h5 h6 hd hval he
    induction len with
    | zero => exact ⟨[], rfl, (fun x hx => by cases hx), fun i hi => by omega⟩
    | succ n ih =>
      obtain ⟨xs, h7, h9, h8⟩ := ih (fun i hi => hx i (by omega))
      obtain ⟨e, hI, he⟩ := hx n (by omega)
      refine ⟨xs ++ [e], by simp [h7], fun x hx => ?_, fun i hi => ?_⟩
      · rcases List.mem_append.1 hx with h | h
        · exact h9 x h
        · simp at h; subst h; exact hI
      · rcases Nat.lt_or_ge i n with h | h
        · have := h8 i h
          rw [show (xs ++ [e]).getD i rgNone = xs.getD i rgNone by simp [List.getD, List.getElem?_append_left (by omega : i < xs.length)]]
          exact this
        · obtain rfl : i = n := by omega
          rw [show (xs ++ [e]).getD i rgNone = e by simp [List.getD, h7]]
          exact he
  obtain ⟨xs, rfl, hI, hxs⟩ := hl
  refine ⟨A, cap, xs, rfl, ?_, fun hne => ?_, hI⟩
  · unfold reachBytes at h3; omega
  · have hpos : 0 < xs.length := List.length_pos_iff.2 hne
    rw [rg_cells] at h5
    obtain ⟨b, off, rfl, hb⟩ := h5 (by omega)
    refine ⟨b, off, rfl, hb, fun k hk => ?_⟩
    obtain ⟨a, ha, hc⟩ := hxs k hk
    injection ha with ha
    subst ha
    generalize xs.getD k rgNone = e at hc ⊢
    have g0 := hc 0 _ rfl
    have g1 := hc 1 _ rfl
    have g2 := hc 2 _ rfl
    simp only [Addr.add_lit, ← Nat.add_assoc, Nat.add_zero] at g0 g1 g2
    exact ⟨g0, g1, g2⟩
end Go.Proofs.Ytgipelnjbpkfjaa
