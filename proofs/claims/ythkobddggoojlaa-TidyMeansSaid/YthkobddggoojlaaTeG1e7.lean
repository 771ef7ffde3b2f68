/- Parts of a proof, joined. No condition but those that each theorem names. -/
import Derived.WalkKit
import Derived.OpenShut
import Derived.Below
import Derived.Lib.Hide
import Derived.Laws.OwnMore
import Derived.Deep.QuietTactic
import Derived.Deep.AppendLies
import Derived.ProofKit
import Derived.SizedLaws
import Derived.Test.YthkobddggoojlaaProg
import Derived.Handy
import Derived.Deep.RegionHeld3
import Derived.BigQuiet
import Derived.Maps.AppendAt
import Derived.Maps.RangeWalk
import Derived.Maps.OwnSet
import Derived.Test.YthkobddggoojlaaTeG0e0
import Derived.Test.YthkobddggoojlaaTeG0e2
import Derived.Test.YthkobddggoojlaaTeG0e4
import Derived.Test.YthkobddggoojlaaTeIrC
import Derived.Test.YthkobddggoojlaaTeG1e6
namespace Go.Proofs.Ythkobddggoojlaa
open Go.RowKit
set_option linter.unusedVariables false
theorem law3 : Maps.Keyed Try.prog 3 := Maps.int_keyed Try.underlying3
def numD : DataW Unit → Option Int
  | .lit (.int .i64 v) => some v
  | _ => none
/-- What a map holds at a number. -/
def mget (D : DataW Unit) (k : Int) : Option Int := if Maps.has D (.int .i64 k) = true then numD (D.atKey (.int .i64 k) (.lit (.int .i64 0))) else none
def MapAt (w : World) (b n : Nat) (f : Int → Option Int) : Prop := ∃ D : DataW Unit, w.ownsMap Try.prog 3 (plainElem Try.prog 3) b n D ∧ ∀ k, mget D k = f k
theorem int_ne {a b : Int} (h : a ≠ b) : (Lit.int .i64 a) ≠ .int .i64 b := fun e => h (by injection e)
theorem isKey_int (k : Int) : WideAt.IsKeyLit (.int .i64 k) := trivial
theorem mget_del (D : DataW Unit) (t k : Int) : mget (D.del (.int .i64 t)) k = if k = t then none else mget D k := by
  unfold mget
  by_cases h : k = t
  · subst h
    rw [Maps.has_del_same, if_pos rfl]; rfl
  · rw [Maps.has_del_other (int_ne h), Maps.atKey_del_other (int_ne h), if_neg h]
theorem mget_put {D : DataW Unit} (hD : Maps.IsMap D) (t v k : Int) : mget (D.put (.int .i64 t) (.lit (.int .i64 v))) k = if k = t then some v else mget D k := by
  unfold mget
  by_cases h : k = t
  · subst h
    rw [Maps.has_put_same hD (isKey_int k), Maps.atKey_put_same hD (isKey_int k), if_pos rfl, if_pos rfl]; rfl
  · rw [Maps.has_put_other (int_ne h), Maps.atKey_put_other (int_ne h), if_neg h]
theorem MapAt.keep {w w' : World} {b n : Nat} {f : Int → Option Int} (h : MapAt w b n f) {row : Option Nat} (hg : w.grownBy w' row) (hne : some b ≠ row) : MapAt w' b n f := by
  obtain ⟨D, h1, h2⟩ := h
  exact ⟨D, h1.kept hg hne, h2⟩
theorem MapAt.below {w w' : World} {b n : Nat} {f : Int → Option Int} (h : MapAt w b n f) (hb : Below w.heap.size w w') : MapAt w' b n f :=
  h.keep (row := none) ⟨hb.os, hb.tape, hb.output, hb.size, fun k hk _ => hb.block k hk⟩ (by simp)
theorem MapAt.setCell {w : World} {b n : Nat} {f : Int → Option Int} (h : MapAt w b n f) (q : Addr) (u : Value) (hq : q.block ≠ b) : MapAt (w.setCell q u) b n f := h.keep (grown_setCell w q u) (fun e => hq (by injection e with e; exact e.symm))
theorem MapAt.lt {w : World} {b n : Nat} {f : Int → Option Int} (h : MapAt w b n f) : b < w.heap.size := by obtain ⟨D, h1, _⟩ := h; exact h1.lt
end Go.Proofs.Ythkobddggoojlaa
namespace Go.Proofs.Ythkobddggoojlaa
open Go.RowKit Go.Maps Go.ChangeMaps Go.MapKept
set_option linter.unusedVariables false
section
variable {w : World} {b n : Nat} {f : Int → Option Int} {T : TypeId}
theorem MapAt.drop (hT : Try.prog.underlying T = some (.map 3 3)) (h : MapAt w b n f) (t : Int) (ht : (Lit.int .i64 t).wf = true) (ty : TypeId) :
    ∃ w', (Builtin.delete_ #[T, 3] ty #[.map (some b), .int .i64 t]).run Try.prog w = .ok (.tuple #[]) w' ∧ MapAt w' b n (fun k => if k = t then none else f k) ∧ w.grownBy w' (some b) := by
  obtain ⟨D, hown, hget⟩ := h
  obtain ⟨w', h1, h2, h3⟩ := hown.drop law3 hT (keyOf_int_mk Try.underlying3 ht) ty
  exact ⟨w', h1, ⟨_, h2, fun k => by rw [mget_del, hget k]⟩, h3.grown⟩
theorem MapAt.store (hT : Try.prog.underlying T = some (.map 3 3)) (h : MapAt w b n f) (hn : n < maxLen) (t v : Int) (ht : (Lit.int .i64 t).wf = true) (hv : (Lit.int .i64 v).wf = true) :
    ∃ w', (Instr.mapUpdate T (.map (some b)) (.int .i64 t) (.int .i64 v)).run Try.prog w = .ok () w' ∧ MapAt w' b (n + 1) (fun k => if k = t then some v else f k) ∧ w.grownBy w' (some b) := by
  obtain ⟨D, hown, hget⟩ := h
  have hM := hown.isMap
  obtain ⟨w', h1, h2, h3⟩ := hown.store law3 hT hn (keyOf_int_mk Try.underlying3 ht) (plainElem_int Try.underlying3 hv)
  exact ⟨w', h1, ⟨_, h2, fun k => by rw [mget_put hM, hget k]⟩, h3.grown⟩
end
end Go.Proofs.Ythkobddggoojlaa
