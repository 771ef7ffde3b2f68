/- append of a slice of events that came in onto a row of the call's own; a row of the call's own as a list of events. No condition but those that each theorem names. -/
import Derived.Test.YtgkaempkapnfcaaEvents
import Derived.Test.YtgkaempkapnfcaaGroupM
import Derived.Maps.AppendAt
import Derived.OwnWalk
import Derived.RegionTactic
namespace Go.Proofs.Ytgkaempkapnfcaa
open Go.RowKit

theorem ev_info : (Try.prog.info? 55).map (fun i => (i.zero, i.size, i.bytes)) = some (some (.agg #[.int .i64 0, .int .i64 0, .int .i64 0, .int .i64 0]), 4, 32) := by kernel_rfl
def evFlat (xs : List Ev) : List Value := xs.flatMap evCells
theorem evFlat_len (xs : List Ev) : (evFlat xs).length = xs.length * 4 := by
  induction xs with
  | nil => rfl
  | cons x xs ih => rw [evFlat, List.flatMap_cons, List.length_append, ← evFlat, ih, List.length_cons]; simp [evCells]; omega
theorem evFlat_at (xs : List Ev) (k : Nat) (hk : k < xs.length) (j : Nat) (hj : j < 4) : (evFlat xs)[k * 4 + j]? = (evCells (xs.getD k evNone))[j]? := by
  induction xs generalizing k with
  | nil => simp at hk
  | cons x xs ih =>
    rw [evFlat, List.flatMap_cons, ← evFlat]
    have hl : (evCells x).length = 4 := rfl
    cases k with
    | zero => rw [List.getElem?_append_left (by omega)]; simp
    | succ k =>
      rw [List.getElem?_append_right (by omega), hl, show (k + 1) * 4 + j - 4 = k * 4 + j by omega, ih k (by simp at hk; omega)]
      simp
theorem evFlat_one (xs : List Ev) : ∀ u ∈ evFlat xs, u.oneCell' = true := by
  intro u hu
  unfold evFlat evCells at hu
  simp only [List.mem_flatMap, List.mem_cons, List.not_mem_nil, or_false] at hu
  obtain ⟨x, _, h | h | h | h⟩ := hu <;> subst h <;> rfl
/-- The cells of a slice of events, one by one. -/
theorem evSl_cells {w : World} {B : Nat} {A : Option Addr} {xs : List Ev} (h : EvSl w B A xs) (hne : xs ≠ []) : ∃ ad, A = some ad ∧ ∀ j u, (evFlat xs)[j]? = some u → w.cell? (ad.add j) = some u := by
  obtain ⟨b, off, rfl, _, hc⟩ := h hne
  refine ⟨_, rfl, fun j u hu => ?_⟩
  have hj : j < (evFlat xs).length := by
    rcases Nat.lt_or_ge j (evFlat xs).length with h1 | h1
    · exact h1
    · rw [List.getElem?_eq_none h1] at hu; cases hu
  rw [evFlat_len] at hj
  obtain ⟨h0, h1, h2, h3⟩ := hc (j / 4) (by omega)
  have hu' := hu
  rw [show j = j / 4 * 4 + j % 4 by omega, evFlat_at xs (j / 4) (by omega) (j % 4) (by omega)] at hu'
  have ha : ((⟨b, off, none⟩ : Addr).add j) = ⟨b, off + (j / 4 * 4 + j % 4), none⟩ := by
    rw [show j / 4 * 4 + j % 4 = j by omega]
    unfold Addr.add; split
    · rename_i h; simp
    · rfl
  rw [ha]
  have e : j % 4 = 0 ∨ j % 4 = 1 ∨ j % 4 = 2 ∨ j % 4 = 3 := by omega
  rcases e with e | e | e | e <;> rw [e] at hu' ⊢ <;> simp only [evCells, List.getElem?_cons_zero, List.getElem?_cons_succ, Option.some.injEq] at hu' <;> subst hu'
  · exact h0
  · rw [← Nat.add_assoc]; exact h1
  · rw [← Nat.add_assoc]; exact h2
  · rw [← Nat.add_assoc]; exact h3
/-- append onto a row of the call's own, the source nil, empty or not. -/
theorem run_append_ev (w : World) (base : Nat) (v : Value) (n : Nat) (ys : List Value) (hown : w.ownsRow base 55 4 v n ys) (A : Option Addr) (c : Nat) (xs : List Ev) {B : Nat} (h : EvSl w B A xs)
    (hnm : n + xs.length ≤ 1000000) (hbase : base ≤ w.heap.size) :
    ∃ v' w', (Builtin.append_ #[28, 28] 28 #[v, .slice A xs.length c]).run Try.prog w = .ok v' w' ∧ w'.ownsRow base 55 4 v' (n + xs.length) (ys ++ evFlat xs) ∧ w.grownBy w' v.ownBlock ∧
      (v'.ownBlock = v.ownBlock ∨ v'.ownBlock = some w.heap.size) := by
  obtain ⟨i0, hi, hz0, hz1, hz2⟩ := info_parts ev_info
  cases A with
  | none =>
    have hne : xs = [] := by
      refine Decidable.byContradiction fun hne => ?_
      obtain ⟨ad, h1, _⟩ := evSl_cells h hne
      cases h1
    subst hne
    refine ⟨v, w, ?_, by simpa [evFlat] using hown, World.grownBy.refl w _, .inl rfl⟩
    have hu := run_underlying (P := Try.prog) (w := w) Try.underlying28
    rcases hown.2 with ⟨rfl, rfl⟩ | ⟨g, cap, cur, rfl, _, _, hnc, _⟩
    · simp [Builtin.append_, hu, sizeOf, typeInfo, hi, Builtin.lenOf, Builtin.firstCells]
    · simp [Builtin.append_, hu, sizeOf, typeInfo, hi, Builtin.lenOf, Builtin.firstCells, hnc, storeCells]
  | some ad =>
    have hc : ∀ j u, (evFlat xs)[j]? = some u → w.cell? (ad.add j) = some u := by
      intro j u hu
      by_cases hne : xs = []
      · subst hne; simp [evFlat] at hu
      · obtain ⟨ad', h1, h2⟩ := evSl_cells h hne
        injection h1 with h1
        subst h1
        exact h2 j u hu
    obtain ⟨v', w', h1, h2, h3, _, h5⟩ := run_append_own_at (P := Try.prog) w base 28 28 55 i0 _ 4 32 Try.underlying28 hi hz0 hz1 hz2 rfl (by omega) v n ys hown ad xs.length c (evFlat xs) (evFlat_len xs) hc (evFlat_one xs)
      (by unfold maxLen; omega) (by omega) hbase
    exact ⟨v', w', h1, h2, h3, h5⟩
/-- A row of the call's own reads as the list. -/
theorem evSl_own {w : World} {base : Nat} {A : Option Addr} {c : Nat} {xs : List Ev} (h : w.ownsRow base 55 4 (.slice A xs.length c) xs.length (evFlat xs)) : EvSl w w.heap.size A xs := by
  intro hne
  rcases h.2 with ⟨_, h0⟩ | ⟨g, cap, cur, hv, _, hb, _, _, _, _⟩
  · exact absurd (List.eq_nil_of_length_eq_zero h0) hne
  · injection hv with h1 _ _
    subst h1
    have hc := h.cells (g := g) rfl
    refine ⟨g, 0, rfl, lt_of_blk hb, fun k hk => ?_⟩
    have one : ∀ j, j < 4 → ∀ u, (evCells (xs.getD k evNone))[j]? = some u → w.cell? ⟨g, 0 + k * 4 + j, none⟩ = some u := by
      intro j hj u hu
      have := hc (k * 4 + j) u (by rw [evFlat_at xs k hk j hj]; exact hu)
      have ha : ((⟨g, 0, none⟩ : Addr).add (k * 4 + j)) = ⟨g, 0 + k * 4 + j, none⟩ := by
        unfold Addr.add; split
        · rename_i h; simp only [Nat.zero_add]; rw [h]
        · simp only [Addr.mk.injEq, and_true, true_and]; omega
      rw [ha] at this
      exact this
    exact ⟨one 0 (by omega) _ rfl, one 1 (by omega) _ rfl, one 2 (by omega) _ rfl, one 3 (by omega) _ rfl⟩
/-- append in a walk, out of its run. -/
theorem wpList_app {P : Program} {w : World} {ops : Array Oper} {rest : List Oper} {o : Oper} {a : Act} {Q : Exit → Act → World → Prop} (hgd : o.guard = none) (s x : Operand) (t : TypeId)
    (ho : o.op = .call { callee := .builtin .append, args := #[s, x], argTypes := #[t, t] }) {v xv v' : Value} {w' : World} (hrun : (Builtin.append_ #[t, t] o.type #[v, xv]).run P w = .ok v' w') (hs : a.eval s = v) (hx : a.eval x = xv)
    (h : wpList P ops Q rest (a.put o.dst v') w') : wpList P ops Q (o :: rest) a w := by
  refine wpList_plain hgd fun K hK => ?_
  unfold Oper.wp execOp
  simp only [ho, resolve, invoke, builtin, Sem.run_bind, Sem.run_pure, Result.andThen_ok, List.map_toArray, List.map_cons, List.map_nil, hs, hx, hrun]
  exact hK _ _ h
end Go.Proofs.Ytgkaempkapnfcaa
