/- Lists of steps: as data, as cells, and as an argument that comes in. -/
import Derived.Test.YtgipelnjbpkfjaaRgOpen
import Derived.Test.YtgipelnjbpkfjaaMemOps
namespace Go.Proofs.Ytgipelnjbpkfjaa
open Go.ChangeShapes Go.WideShapes Go.ChangeAt Go.RowKit

structure St where
  kind : Int
  a : Int
  n : Int
  v : Int
def stCells (e : St) : List Value := [.int .i64 e.kind, .int .i64 e.a, .int .i64 e.n, .int .i64 e.v]
def stNone : St := ⟨0, 0, 0, 0⟩
/-- From this address on lie these steps, below block B. -/
def StAt (w : World) (B b off : Nat) (xs : List St) : Prop :=
  b < B ∧ ∀ k, k < xs.length → w.cell? ⟨b, off + k * 4, none⟩ = some (.int .i64 (xs.getD k stNone).kind) ∧ w.cell? ⟨b, off + k * 4 + 1, none⟩ = some (.int .i64 (xs.getD k stNone).a) ∧
    w.cell? ⟨b, off + k * 4 + 2, none⟩ = some (.int .i64 (xs.getD k stNone).n) ∧ w.cell? ⟨b, off + k * 4 + 3, none⟩ = some (.int .i64 (xs.getD k stNone).v)
/-- The slice's address is that of these steps. -/
def StSl (w : World) (B : Nat) (A : Option Addr) (xs : List St) : Prop := xs ≠ [] → ∃ b off, A = some ⟨b, off, none⟩ ∧ StAt w B b off xs
theorem StAt.below {w w' : World} {B b off : Nat} {xs : List St} (h : StAt w B b off xs) {B' : Nat} (hb : Below B' w w') (hB : B ≤ B') : StAt w' B b off xs := by
  refine ⟨h.1, fun k hk => ?_⟩
  obtain ⟨h0, h1, h2, h3⟩ := h.2 k hk
  have hlt : b < B' := Nat.lt_of_lt_of_le h.1 hB
  exact ⟨(hb.cell hlt).trans h0, (hb.cell hlt).trans h1, (hb.cell hlt).trans h2, (hb.cell hlt).trans h3⟩
theorem StSl.below {w w' : World} {B : Nat} {A : Option Addr} {xs : List St} (h : StSl w B A xs) {B' : Nat} (hb : Below B' w w') (hB : B ≤ B') : StSl w' B A xs :=
  fun hne => let ⟨b, off, e, ha⟩ := h hne; ⟨b, off, e, ha.below hb hB⟩
theorem StSl.more {w : World} {B B' : Nat} {A : Option Addr} {xs : List St} (h : StSl w B A xs) (hB : B ≤ B') : StSl w B' A xs :=
  fun hne => let ⟨b, off, e, ha⟩ := h hne; ⟨b, off, e, ⟨Nat.lt_of_lt_of_le ha.1 hB, ha.2⟩⟩

theorem st_cells : Try.prog.cellsOf 76 = 4 := by kernel_rfl
theorem st_bytes : Try.prog.bytesOf 76 = 32 := by kernel_rfl
theorem opens_st {W : World} {B : Nat} : Opens Try.prog W B 76 (fun cs => ∃ e : St, cs = stCells e ∧ e.a ≤ 9223372036854775807) := by
  refine (opens_flat Try.underlying76 (by kernel_rfl) (fun _ v => ∃ n, v = .int .i64 n ∧ (Lit.int .i64 n).wf = true) ?_).mono ?_
  · intro i f hf
    match i, hf with
    | 0, hf | 1, hf | 2, hf | 3, hf => simp at hf; subst hf; exact opens_int1 Try.underlying3
    | i + 4, hf => simp at hf
  · intro cs ⟨hl, hf⟩
    rw [st_cells] at hl
    match cs, hl with
    | [x0, x1, x2, x3], _ =>
      obtain ⟨a, rfl, _⟩ := hf 0 _ (by decide) rfl
      obtain ⟨b, rfl, hb⟩ := hf 1 _ (by decide) rfl
      obtain ⟨c, rfl, _⟩ := hf 2 _ (by decide) rfl
      obtain ⟨d, rfl, _⟩ := hf 3 _ (by decide) rfl
      exact ⟨⟨a, b, c, d⟩, rfl, (i64_wf hb).2⟩
set_option maxRecDepth 100000 in
/-- A slice of steps: as many as it is long; they lie below the heap's size; and its size is within the reach. -/
theorem open_steps {W : World} {H : Type} {enc : TypeId × Value → H} {v : Value} {d : DataW H} {ps : List MemPlace} {base : Nat} (hval : Value.okWide Try.prog W .any base 64 v)
    (hd : DataW.Trod enc Try.prog W 0 (fun _ => true) true 64 v d ps) (hlt : ∀ p ∈ ps, p.block < W.heap.size) (hw : ∀ n ∈ d.weights Try.prog 64, n ≤ reachBytes) :
    ∃ A c, ∃ xs : List St, v = .slice A xs.length c ∧ xs.length ≤ c ∧ (A = none → c = 0) ∧ c ≤ 4398046511104 ∧ StSl W W.heap.size A xs ∧ ∀ x ∈ xs, x.a ≤ 9223372036854775807 := by
  obtain ⟨A, len, cap, rfl⟩ := okWide_slice Try.underlying64 hval
  obtain ⟨A', len', cap', he, h1, h2, h3, h4, h5, h6⟩ := (opens_slice Try.underlying64 _ opens_st).arg hd hlt hw
  have he' : A = A' ∧ len = len' ∧ cap = cap' := by simpa [Value.cells] using he
  obtain ⟨rfl, rfl, rfl⟩ := he'
  rw [st_bytes] at h3
  have hx : ∀ i, i < len → ∃ e : St, e.a ≤ 9223372036854775807 ∧ ∃ a, A = some a ∧ ∀ j u, (stCells e)[j]? = some u → W.cell? (a.add (i * 4 + j)) = some u := by
    intro i hi
    obtain ⟨a, es, ha, _, ⟨e, rfl, hw⟩, hc⟩ := h6 i hi
    rw [st_cells] at hc
    exact ⟨e, hw, a, ha, hc⟩
  have hl : ∃ xs : List St, xs.length = len ∧ (∀ x ∈ xs, x.a ≤ 9223372036854775807) ∧ ∀ i, i < len → ∃ a, A = some a ∧ ∀ j u, (stCells (xs.getD i stNone))[j]? = some u → W.cell? (a.add (i * 4 + j)) = some u := by
    clear h1 h3 h4 h5 h6 hd hval he
    induction len with
    | zero => exact ⟨[], rfl, by simp, fun i hi => by omega⟩
    | succ n ih =>
      obtain ⟨xs, h7, h9, h8⟩ := ih (fun i hi => hx i (by omega))
      obtain ⟨e, hw, he⟩ := hx n (by omega)
      refine ⟨xs ++ [e], by simp [h7], fun x hx => (List.mem_append.1 hx).elim (h9 x) (fun h => (List.mem_singleton.1 h) ▸ hw), fun i hi => ?_⟩
      rcases Nat.lt_or_ge i n with h | h
      · have := h8 i h
        rw [show (xs ++ [e]).getD i stNone = xs.getD i stNone by simp [List.getD, List.getElem?_append_left (by omega : i < xs.length)]]
        exact this
      · obtain rfl : i = n := by omega
        rw [show (xs ++ [e]).getD i stNone = e by simp [List.getD, h7]]
        exact he
  obtain ⟨xs, rfl, hxI, hxs⟩ := hl
  refine ⟨A, cap, xs, rfl, h1, h4, ?_, fun hne => ?_, hxI⟩
  · unfold reachBytes at h3; omega
  · have hpos : 0 < xs.length := List.length_pos_iff.2 hne
    rw [st_cells] at h5
    obtain ⟨b, off, rfl, hb⟩ := h5 (by omega)
    refine ⟨b, off, rfl, hb, fun k hk => ?_⟩
    obtain ⟨a, ha, hc⟩ := hxs k hk
    injection ha with ha
    subst ha
    generalize xs.getD k stNone = e at hc ⊢
    have g0 := hc 0 _ rfl
    have g1 := hc 1 _ rfl
    have g2 := hc 2 _ rfl
    have g3 := hc 3 _ rfl
    simp only [Addr.add_lit, ← Nat.add_assoc, Nat.add_zero] at g0 g1 g2 g3
    exact ⟨g0, g1, g2, g3⟩

end Go.Proofs.Ytgipelnjbpkfjaa
