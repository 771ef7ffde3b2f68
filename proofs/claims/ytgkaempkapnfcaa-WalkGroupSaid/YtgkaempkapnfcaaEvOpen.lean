/- A list of events that comes in as an argument: what its cells hold. -/
import Derived.Test.YtgkaempkapnfcaaOpen
import Derived.Test.YtgkaempkapnfcaaEvents
namespace Go.Proofs.Ytgkaempkapnfcaa
open Go.ChangeShapes Go.WideShapes Go.ChangeAt Go.RowKit

theorem ev_cells : Try.prog.cellsOf 55 = 4 := by kernel_rfl
theorem ev_bytes : Try.prog.bytesOf 55 = 32 := by kernel_rfl
theorem opens_ev {W : World} {B : Nat} : Opens Try.prog W B 55 (fun cs => ∃ e : Ev, cs = evCells e) := by
  refine (opens_flat Try.underlying55 (by kernel_rfl) (fun _ v => ∃ n, v = .int .i64 n ∧ (Lit.int .i64 n).wf = true) ?_).mono ?_
  · intro i f hf
    match i, hf with
    | 0, hf | 1, hf | 2, hf | 3, hf => simp at hf; subst hf; exact opens_int1 Try.underlying3
    | i + 4, hf => simp at hf
  · intro cs ⟨hl, hf⟩
    rw [ev_cells] at hl
    match cs, hl with
    | [x0, x1, x2, x3], _ =>
      obtain ⟨a, rfl, _⟩ := hf 0 _ (by decide) rfl
      obtain ⟨b, rfl, _⟩ := hf 1 _ (by decide) rfl
      obtain ⟨c, rfl, _⟩ := hf 2 _ (by decide) rfl
      obtain ⟨d, rfl, _⟩ := hf 3 _ (by decide) rfl
      exact ⟨⟨a, b, c, d⟩, rfl⟩
/-- A slice of events: as many as it is long; they lie below the heap's size; and its size is within the reach. -/
theorem open_events {W : World} {H : Type} {enc : TypeId × Value → H} {v : Value} {d : DataW H} {ps : List MemPlace} {base : Nat} (hval : Value.okWide Try.prog W .any base 28 v)
    (hd : DataW.Trod enc Try.prog W 0 (fun _ => true) true 28 v d ps) (hlt : ∀ p ∈ ps, p.block < W.heap.size) (hw : ∀ n ∈ d.weights Try.prog 28, n ≤ reachBytes) :
    ∃ A c, ∃ xs : List Ev, v = .slice A xs.length c ∧ xs.length ≤ c ∧ (A = none → c = 0) ∧ c ≤ 4398046511104 ∧ EvSl W W.heap.size A xs := by
  obtain ⟨A, len, cap, rfl⟩ := okWide_slice Try.underlying28 hval
  obtain ⟨A', len', cap', he, h1, h2, h3, h4, h5, h6⟩ := (opens_slice Try.underlying28 _ opens_ev).arg hd hlt hw
  have he' : A = A' ∧ len = len' ∧ cap = cap' := by simpa [Value.cells] using he
  obtain ⟨rfl, rfl, rfl⟩ := he'
  rw [ev_bytes] at h3
  have hx : ∀ i, i < len → ∃ e : Ev, ∃ a, A = some a ∧ ∀ j u, (evCells e)[j]? = some u → W.cell? (a.add (i * 4 + j)) = some u := by
    intro i hi
    obtain ⟨a, es, ha, _, ⟨e, rfl⟩, hc⟩ := h6 i hi
    rw [ev_cells] at hc
    exact ⟨e, a, ha, hc⟩
  have hl : ∃ xs : List Ev, xs.length = len ∧ ∀ i, i < len → ∃ a, A = some a ∧ ∀ j u, (evCells (xs.getD i evNone))[j]? = some u → W.cell? (a.add (i * 4 + j)) = some u := by
    clear h1 h3 h4 h5 h6 hd hval he
    induction len with
    | zero => exact ⟨[], rfl, fun i hi => by omega⟩
    | succ n ih =>
      obtain ⟨xs, h7, h8⟩ := ih (fun i hi => hx i (by omega))
      obtain ⟨e, he⟩ := hx n (by omega)
      refine ⟨xs ++ [e], by simp [h7], fun i hi => ?_⟩
      rcases Nat.lt_or_ge i n with h | h
      · have := h8 i h
        rw [show (xs ++ [e]).getD i evNone = xs.getD i evNone by simp [List.getD, List.getElem?_append_left (by omega : i < xs.length)]]
        exact this
      · obtain rfl : i = n := by omega
        rw [show (xs ++ [e]).getD i evNone = e by simp [List.getD, h7]]
        exact he
  obtain ⟨xs, rfl, hxs⟩ := hl
  refine ⟨A, cap, xs, rfl, h1, h4, ?_, fun hne => ?_⟩
  · unfold reachBytes at h3; omega
  · have hpos : 0 < xs.length := List.length_pos_iff.2 hne
    rw [ev_cells] at h5
    obtain ⟨b, off, rfl, hb⟩ := h5 (by omega)
    refine ⟨b, off, rfl, hb, fun k hk => ?_⟩
    obtain ⟨a, ha, hc⟩ := hxs k hk
    injection ha with ha
    subst ha
    generalize xs.getD k evNone = e at hc ⊢
    have g0 := hc 0 _ rfl
    have g1 := hc 1 _ rfl
    have g2 := hc 2 _ rfl
    have g3 := hc 3 _ rfl
    simp only [Addr.add_lit, ← Nat.add_assoc, Nat.add_zero] at g0 g1 g2 g3
    exact ⟨g0, g1, g2, g3⟩
end Go.Proofs.Ytgkaempkapnfcaa
