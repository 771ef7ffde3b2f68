/- Maps of numbers that a call makes, told by what they hold at each key. -/
import Derived.Test.YtiaimceefkdchaaOwnB
import Derived.Maps.RangeWalk
import Derived.Maps.OwnSet
namespace Go.Proofs.Ytiaimceefkdchaa
open Go.RowKit
set_option linter.unusedVariables false
theorem law3 : Maps.Keyed Try.prog 3 := Maps.int_keyed Try.underlying3
theorem zero3 (w : World) : (zeroValue 3).run Try.prog w = .ok (.int .i64 0) w := by kernel_rfl
def numD : DataW Unit → Option Int
  | .lit (.int .i64 v) => some v
  | _ => none
/-- What a map holds at a number. -/
def mget (D : DataW Unit) (k : Int) : Option Int := if Maps.has D (.int .i64 k) = true then numD (D.atKey (.int .i64 k) (.lit (.int .i64 0))) else none
def MapAt (w : World) (b n : Nat) (f : Int → Option Int) : Prop := ∃ D : DataW Unit, w.ownsMap Try.prog 3 (plainElem Try.prog 3) b n D ∧ ∀ k, mget D k = f k
theorem int_ne {a b : Int} (h : a ≠ b) : (Lit.int .i64 a) ≠ .int .i64 b := fun e => h (by injection e)
theorem isKey_int (k : Int) : WideAt.IsKeyLit (.int .i64 k) := trivial
theorem mget_del (D : DataW Unit) (t k : Int) : mget (D.del (.int .i64 t)) k = if k = t then none else mget D k := by
  unfold mget
  by_cases h : k = t
  · subst h
    rw [Maps.has_del_same, if_pos rfl]; rfl
  · rw [Maps.has_del_other (int_ne h), Maps.atKey_del_other (int_ne h), if_neg h]
theorem mget_put {D : DataW Unit} (hD : Maps.IsMap D) (t v k : Int) : mget (D.put (.int .i64 t) (.lit (.int .i64 v))) k = if k = t then some v else mget D k := by
  unfold mget
  by_cases h : k = t
  · subst h
    rw [Maps.has_put_same hD (isKey_int k), Maps.atKey_put_same hD (isKey_int k), if_pos rfl, if_pos rfl]; rfl
  · rw [Maps.has_put_other (int_ne h), Maps.atKey_put_other (int_ne h), if_neg h]
theorem mget_empty (k : Int) : mget (.map []) k = none := rfl
theorem mget_some {D : DataW Unit} {k c : Int} (h : Maps.has D (.int .i64 k) = true) (hc : D.atKey (.int .i64 k) (.lit (.int .i64 0)) = .lit (.int .i64 c)) : mget D k = some c := by
  unfold mget; rw [if_pos h, hc]; rfl
theorem mget_none {D : DataW Unit} {k : Int} (h : Maps.has D (.int .i64 k) = false) : mget D k = none := by
  unfold mget; rw [if_neg (by rw [h]; decide)]
theorem mget_at {D : DataW Unit} {k c : Int} (h : ∀ z, D.atKey (.int .i64 k) z = .lit (.int .i64 c)) : mget D k = some c := mget_some (Maps.has_true_of_atKey h) (h _)
theorem map_made (w : World) : MapAt (w.alloc (.map #[] 0)) w.heap.size 0 (fun _ => none) := ⟨.map [], World.ownsMap_made _ _ _ _, mget_empty⟩
theorem MapAt.keep {w w' : World} {b n : Nat} {f : Int → Option Int} (h : MapAt w b n f) {row : Option Nat} (hg : w.grownBy w' row) (hne : some b ≠ row) : MapAt w' b n f := by
  obtain ⟨D, h1, h2⟩ := h
  exact ⟨D, h1.kept hg hne, h2⟩
theorem MapAt.below {w w' : World} {b n : Nat} {f : Int → Option Int} (h : MapAt w b n f) (hb : Below w.heap.size w w') : MapAt w' b n f :=
  h.keep (row := none) ⟨hb.os, hb.tape, hb.output, hb.size, fun k hk _ => hb.block k hk⟩ (by simp)
theorem MapAt.setCell {w : World} {b n : Nat} {f : Int → Option Int} (h : MapAt w b n f) (q : Addr) (u : Value) (hq : q.block ≠ b) : MapAt (w.setCell q u) b n f := h.keep (grown_setCell w q u) (fun e => hq (by injection e with e; exact e.symm))
theorem MapAt.lt {w : World} {b n : Nat} {f : Int → Option Int} (h : MapAt w b n f) : b < w.heap.size := by obtain ⟨D, h1, _⟩ := h; exact h1.lt
end Go.Proofs.Ytiaimceefkdchaa
