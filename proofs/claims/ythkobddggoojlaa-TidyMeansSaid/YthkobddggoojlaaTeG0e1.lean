/- Parts of a proof. No condition but those that each theorem names. -/
import Derived.WalkKit
import Derived.ProofKit
import Derived.OpenShut
import Derived.SizedLaws
namespace Go.Proofs.Ythkobddggoojlaa
open Go.ChangeShapes Go.WideShapes Go.ChangeAt Go.RowKit

/-- Whatever reads as a value of this type, all of it below block B and within the form's reach, has cells of which R holds. -/
structure Opens (P : Program) (W : World) (B : Nat) (t : TypeId) (R : List Value → Prop) : Prop where
  run : ∀ {H : Type} (enc : TypeId × Value → H) (fuel : Nat) (cs : List Value) (x : DataW H × List MemPlace), DataW.trod enc P W 0 (fun _ => true) true fuel t cs = some x →
    (∀ p ∈ x.2, p.block < B) → (∀ n ∈ x.1.weights P t, n ≤ reachBytes) → R cs

section
variable {P : Program} {W : World} {B : Nat}
theorem Opens.mono {t : TypeId} {R R' : List Value → Prop} (h : Opens P W B t R) (hr : ∀ cs, R cs → R' cs) : Opens P W B t R' :=
  ⟨fun enc fuel cs x h1 h2 h3 => hr cs (h.run enc fuel cs x h1 h2 h3)⟩
theorem opens_int {t : TypeId} {k : IntKind} (ht : P.underlying t = some (.int k)) : Opens P W B t (fun cs => ∃ n, cs = [.int k n] ∧ (Lit.int k n).wf = true) := by
  refine ⟨?_⟩
  intro H enc fuel cs x h _ _
  obtain ⟨n, h1, _, h2⟩ := DataW.trod_int ht h
  exact ⟨n, h1, h2⟩
theorem weightsEach_mem {H : Type} : ∀ (ts : List TypeId) (ds : List (DataW H)) (i : Nat) (t : TypeId) (d : DataW H), ts[i]? = some t → ds[i]? = some d → ∀ n ∈ d.weights P t, n ∈ DataW.weightsEach P ts ds
  | t :: ts, d :: ds, 0, t', d', h1, h2, n, hn => by
    simp at h1 h2; subst h1; subst h2
    simp [DataW.weightsEach, hn]
  | t :: ts, d :: ds, i + 1, t', d', h1, h2, n, hn => by
    simp at h1 h2
    have := weightsEach_mem ts ds i t' d' h1 h2 n hn
    simp [DataW.weightsEach, this]
  | [], _, _, _, _, h1, _, _, _ => by simp at h1
  | _ :: _, [], _, _, _, _, h2, _, _ => by simp at h2
theorem weightsAll_mem {H : Type} (e : TypeId) : ∀ (ds : List (DataW H)) (i : Nat) (d : DataW H), ds[i]? = some d → ∀ n ∈ d.weights P e, n ∈ DataW.weightsAll P e ds
  | d :: ds, 0, d', h2, n, hn => by
    simp at h2; subst h2
    simp [DataW.weightsAll, hn]
  | d :: ds, i + 1, d', h2, n, hn => by
    simp at h2
    have := weightsAll_mem e ds i d' h2 n hn
    simp [DataW.weightsAll, this]
  | [], _, _, h2, _, _ => by simp at h2
theorem opens_struct {t : TypeId} {fs : Array Field} (ht : P.underlying t = some (.struct fs)) (Rs : Nat → List Value → Prop) (hf : ∀ (i : Nat) (f : Field), fs[i]? = some f → Opens P W B f.type (Rs i)) :
    Opens P W B t (fun cs => cs.length = P.cellsOf t ∧ ∀ (i : Nat) (f : Field), fs[i]? = some f → Rs i ((cs.drop f.offset).take (P.cellsOf f.type))) := by
  refine ⟨?_⟩
  intro H enc fuel cs x h hp hw
  obtain ⟨xs, n, _, rfl, h2, h3, h4⟩ := DataW.trod_struct ht h
  refine ⟨h2, fun i f hfi => ?_⟩
  have hi : i < xs.length := by
    rw [h3]
    rcases Nat.lt_or_ge i fs.size with hlt | hge
    · exact hlt
    · rw [Array.getElem?_eq_none hge] at hfi; cases hfi
  have hx := h4 i f hfi
  have hxi : xs[i]? = some xs[i] := List.getElem?_eq_getElem hi
  rw [hxi] at hx
  refine (hf i f hfi).run enc n _ xs[i] hx (fun p hpm => hp p (List.mem_flatMap.2 ⟨xs[i], List.getElem_mem hi, hpm⟩)) (fun m hm => hw m ?_)
  simp only [DataW.weights, ht]
  refine weightsEach_mem _ _ i f.type xs[i].1 (by simp [hfi]) (by simp [hxi]) m hm
/-- A struct all of whose fields have one cell. -/
theorem opens_flat {t : TypeId} {fs : Array Field} (ht : P.underlying t = some (.struct fs)) (hfl : (fs.toList.zipIdx.all fun x => x.1.offset == x.2 && P.cellsOf x.1.type == 1) = true) (Rs : Nat → Value → Prop)
    (hf : ∀ (i : Nat) (f : Field), fs[i]? = some f → Opens P W B f.type (fun cs => ∃ v, cs = [v] ∧ Rs i v)) :
    Opens P W B t (fun cs => cs.length = P.cellsOf t ∧ ∀ i v, i < fs.size → cs[i]? = some v → Rs i v) := by
  refine (opens_struct ht (fun i cs => ∃ v, cs = [v] ∧ Rs i v) hf).mono fun cs ⟨hl, h⟩ => ⟨hl, fun i v hi hv => ?_⟩
  have hfi : fs[i]? = some fs[i] := Array.getElem?_eq_getElem hi
  obtain ⟨u, hu, hr⟩ := h i fs[i] hfi
  have hx := (List.all_eq_true.1 hfl) (fs[i], i) (by rw [List.mem_zipIdx_iff_getElem?]; simp)
  simp only [Bool.and_eq_true, beq_iff_eq] at hx
  rw [hx.1, hx.2] at hu
  have : (cs.drop i).take 1 = [v] := by
    have hlt : i < cs.length := by
      rcases Nat.lt_or_ge i cs.length with h1 | h1
      · exact h1
      · rw [List.getElem?_eq_none h1] at hv; cases hv
    rw [List.getElem?_eq_getElem hlt] at hv
    injection hv with hv
    rw [List.drop_eq_getElem_cons hlt, hv]; rfl
  rw [this] at hu
  injection hu with hu
  subst hu
  exact hr
theorem opens_int1 {t : TypeId} {k : IntKind} (ht : P.underlying t = some (.int k)) : Opens P W B t (fun cs => ∃ v, cs = [v] ∧ ∃ n, v = .int k n ∧ (Lit.int k n).wf = true) :=
  (opens_int ht).mono fun _ ⟨n, h, hw⟩ => ⟨_, h, n, rfl, hw⟩
/-- What a slice's cells tell. -/
def SliceCells (P : Program) (W : World) (B : Nat) (e : TypeId) (R : List Value → Prop) (cs : List Value) : Prop :=
  ∃ A len cap, cs = [.slice A len cap] ∧ len ≤ cap ∧ cap ≤ maxLen ∧ cap * P.bytesOf e ≤ reachBytes ∧ (A = none → cap = 0) ∧
    (0 < len * P.cellsOf e → ∃ b off, A = some ⟨b, off, none⟩ ∧ b < B) ∧
    ∀ i, i < len → ∃ a es, A = some a ∧ es.length = P.cellsOf e ∧ R es ∧ ∀ j u, es[j]? = some u → W.cell? (a.add (i * P.cellsOf e + j)) = some u
theorem opens_slice {t e : TypeId} (ht : P.underlying t = some (.slice e)) (R : List Value → Prop) (he : Opens P W B e R) : Opens P W B t (SliceCells P W B e R) := by
  refine ⟨?_⟩
  intro H enc fuel cs x h hp hw
  rcases DataW.trod_slice ht h with ⟨rfl, rfl⟩ | ⟨a, len, cap, elems, rest, n, _, rfl, rfl, _, hl, hm, hlen, hel, hsp, _⟩
  · exact ⟨none, 0, 0, rfl, Nat.le_refl _, Nat.zero_le _, by simp, fun _ => rfl, fun h => by simp at h, fun i hi => by omega⟩
  · have hrest := (hsp rfl).1
    have hin : ∀ i, i < len → ∃ es, es.length = P.cellsOf e ∧ R es ∧ ∀ j u, es[j]? = some u → W.cell? (a.add (i * P.cellsOf e + j)) = some u := by
      intro i hi
      have hx := hel i hi
      have hi' : i < elems.length := by omega
      have hxi : elems[i]? = some elems[i] := List.getElem?_eq_getElem hi'
      rw [hxi, Option.bind_eq_some_iff] at hx
      obtain ⟨es, h1, h2⟩ := hx
      obtain ⟨_, h3, h4⟩ := World.cells?_some h1
      refine ⟨es, h3, he.run enc n es elems[i] h2 (fun p hpm => hp p ?_) (fun m hm => hw m ?_), fun j u hj => ?_⟩
      · simp only [List.mem_append, List.mem_flatMap]
        exact Or.inr ⟨elems[i], Or.inl (List.getElem_mem hi'), hpm⟩
      · simp only [DataW.weights, ht, List.mem_cons, List.mem_append]
        exact Or.inr (Or.inl (weightsAll_mem e _ i elems[i].1 (by simp [hxi]) m hm))
      · have hj' : j < P.cellsOf e := by
          rw [← h3]
          rcases Nat.lt_or_ge j es.length with hlt | hge
          · exact hlt
          · rw [List.getElem?_eq_none hge] at hj; cases hj
        have := h4 j hj'
        rw [Addr.add_add] at this
        rw [this, hj]
    refine ⟨some a, len, cap, rfl, hl, hm, ?_, (fun h => by cases h), fun hpos => ?_, fun i hi => ?_⟩
    · have := hw ((elems.length + rest.length) * P.bytesOf e) (by simp [DataW.weights, ht])
      rw [hlen, hrest, show len + (cap - len) = cap by omega] at this
      exact this
    · have h0 : 0 < len := Nat.pos_of_ne_zero (by rintro rfl; simp at hpos)
      have hc : 0 < P.cellsOf e := Nat.pos_of_ne_zero (by intro h; rw [h] at hpos; simp at hpos)
      obtain ⟨es, h1, _, h3⟩ := hin 0 h0
      have hu : ∃ u, es[0]? = some u := ⟨es[0]'(by omega), List.getElem?_eq_getElem (by omega)⟩
      obtain ⟨u, hu⟩ := hu
      have hcell := h3 0 u hu
      rw [Nat.zero_mul, Nat.zero_add, Addr.add_zero'] at hcell
      have hs := World.cell?_spot hcell
      have hb := hp (.cell a.block (a.off + 0)) (by
        simp only [List.mem_append]
        refine Or.inl ?_
        unfold MemPlace.row
        rw [List.mem_map]
        refine ⟨0, List.mem_range.2 ?_, rfl⟩
        rw [hlen]
        exact Nat.mul_pos (by omega) hc)
      obtain ⟨b, off, sp⟩ := a
      simp only at hs
      subst hs
      exact ⟨b, off, rfl, hb⟩
    · obtain ⟨es, h1, h2, h3⟩ := hin i hi
      exact ⟨a, es, rfl, h1, h2, h3⟩
end
theorem weights_of {P : Program} {H : Type} {ts : List TypeId} {ds : List (DataW H)} (h : (DataW.weightsEach P ts ds).all (· ≤ reachBytes) = true) (i : Nat) {t : TypeId} {d : DataW H} (ht : ts[i]? = some t) (hd : ds[i]? = some d) :
    ∀ n ∈ d.weights P t, n ≤ reachBytes := by
  intro n hn
  have := (List.all_eq_true.1 h) n (weightsEach_mem ts ds i t d ht hd n hn)
  simpa using this
/-- An argument's own step: its reading, and that all weights are within the reach, give what its cells hold. -/
theorem Opens.arg {P : Program} {W : World} {t : TypeId} {R : List Value → Prop} (h : Opens P W W.heap.size t R) {H : Type} {enc : TypeId × Value → H} {v : Value} {d : DataW H} {ps : List MemPlace}
    (hd : DataW.Trod enc P W 0 (fun _ => true) true t v d ps) (hlt : ∀ p ∈ ps, p.block < W.heap.size) (hw : ∀ n ∈ d.weights P t, n ≤ reachBytes) : R v.cells.toList := by
  obtain ⟨fuel, hf⟩ := hd
  exact h.run enc fuel _ (d, ps) hf hlt hw
end Go.Proofs.Ythkobddggoojlaa
