/- Run equations of maps of numbers that a call makes: look, drop, store, clear. -/
import Derived.Test.YtiaimceefkdchaaMapI
namespace Go.Proofs.Ytiaimceefkdchaa
open Go.RowKit Go.Maps Go.ChangeMaps Go.MapKept
set_option linter.unusedVariables false
section
variable {w : World} {b n : Nat} {f : Int → Option Int} {T : TypeId}
theorem MapAt.look (hT : Try.prog.underlying T = some (.map 3 3)) (h : MapAt w b n f) (t : Int) (ht : (Lit.int .i64 t).wf = true) :
    (Instr.lookup T (.map (some b)) (.int .i64 t) true).run Try.prog w = .ok (.tuple #[.int .i64 ((f t).getD 0), .bool (f t).isSome]) w := by
  obtain ⟨D, hown, hget⟩ := h
  obtain ⟨v, ps, hrun, hv⟩ := hown.look_ok law3 hT (zero3 w) (plainElem_int Try.underlying3 (by decide)) (keyOf_int_mk Try.underlying3 ht)
  obtain ⟨c, rfl, hc, _⟩ := plainElem_int_inv Try.underlying3 hv
  have hat : D.atKey (.int .i64 t) (.lit (.int .i64 0)) = .lit (.int .i64 c) := congrArg Prod.fst hc
  rw [hrun]
  have hg := hget t
  cases hh : Maps.has D (.int .i64 t) with
  | true =>
    rw [mget_some hh hat] at hg
    rw [← hg]; rfl
  | false =>
    rw [mget_none hh] at hg
    have h0 : c = 0 := by
      rw [Maps.atKey_of_not_has hh] at hat
      simp at hat
      exact hat.symm
    rw [← hg, h0]; rfl
theorem MapAt.drop (hT : Try.prog.underlying T = some (.map 3 3)) (h : MapAt w b n f) (t : Int) (ht : (Lit.int .i64 t).wf = true) (ty : TypeId) :
    ∃ w', (Builtin.delete_ #[T, 3] ty #[.map (some b), .int .i64 t]).run Try.prog w = .ok (.tuple #[]) w' ∧ MapAt w' b n (fun k => if k = t then none else f k) ∧ w.grownBy w' (some b) := by
  obtain ⟨D, hown, hget⟩ := h
  obtain ⟨w', h1, h2, h3⟩ := hown.drop law3 hT (keyOf_int_mk Try.underlying3 ht) ty
  exact ⟨w', h1, ⟨_, h2, fun k => by rw [mget_del, hget k]⟩, h3.grown⟩
theorem MapAt.store (hT : Try.prog.underlying T = some (.map 3 3)) (h : MapAt w b n f) (hn : n < maxLen) (t v : Int) (ht : (Lit.int .i64 t).wf = true) (hv : (Lit.int .i64 v).wf = true) :
    ∃ w', (Instr.mapUpdate T (.map (some b)) (.int .i64 t) (.int .i64 v)).run Try.prog w = .ok () w' ∧ MapAt w' b (n + 1) (fun k => if k = t then some v else f k) ∧ w.grownBy w' (some b) := by
  obtain ⟨D, hown, hget⟩ := h
  have hM := hown.isMap
  obtain ⟨w', h1, h2, h3⟩ := hown.store law3 hT hn (keyOf_int_mk Try.underlying3 ht) (plainElem_int Try.underlying3 hv)
  exact ⟨w', h1, ⟨_, h2, fun k => by rw [mget_put hM, hget k]⟩, h3.grown⟩
theorem MapAt.clear_ (hT : Try.prog.underlying T = some (.map 3 3)) (h : MapAt w b n f) (ty : TypeId) :
    ∃ w', (Builtin.clear_ #[T] ty #[.map (some b)]).run Try.prog w = .ok (.tuple #[]) w' ∧ MapAt w' b 0 (fun _ => none) ∧ w.grownBy w' (some b) := by
  obtain ⟨D, ⟨es, clock, hb, F, hs, hD⟩, hget⟩ := h
  refine ⟨setBlock w b (.map #[] clock), ?_, ⟨.map [], ⟨#[], clock, heap_setBlock_same hb _, ⟨by simp, stamped_empty clock, by simp⟩, Nat.le_refl _, rfl⟩, mget_empty⟩, rfl, rfl, rfl, by simp [setBlock], fun i _ hi => heap_setBlock_other hb _ (fun e => hi (by rw [e]))⟩
  simp [Builtin.clear_, run_underlying hT, MapKept.run_getObj_map hb, MapKept.run_setObj_map _ hb, Result.andThen, setBlock]
end
end Go.Proofs.Ytiaimceefkdchaa
