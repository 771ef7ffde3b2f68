/- Parts of a proof, joined. No condition but those that each theorem names. -/
import Derived.WalkKit
import Derived.OpenShut
import Derived.Below
import Derived.Lib.Hide
import Derived.Laws.OwnMore
import Derived.Deep.QuietTactic
import Derived.Deep.AppendLies
import Derived.ProofKit
import Derived.SizedLaws
import Derived.Test.YthkobddggoojlaaProg
import Derived.Handy
import Derived.Deep.RegionHeld3
import Derived.BigQuiet
import Derived.Maps.AppendAt
import Derived.Maps.RangeWalk
import Derived.Maps.OwnSet
import Derived.StillTailTactics
import Derived.Laws.CopyOwn
import Derived.Lib.BufferWrite
import Derived.OrdersHeld
import Derived.RegionTactic
import Derived.Deep.DeepCutAuto
import Derived.Test.YthkobddggoojlaaTdG0e0
import Derived.Test.YthkobddggoojlaaTdIr
import Derived.Test.YthkobddggoojlaaTdG1e4
import Derived.Test.YthkobddggoojlaaTdG2e5
import Derived.Test.YthkobddggoojlaaTdG2e6
import Derived.Test.YthkobddggoojlaaTdG2e15
namespace Go.Proofs.Ythkobddggoojlaa
open Go.RowKit Go.Maps
set_option linter.unusedVariables false
end Go.Proofs.Ythkobddggoojlaa
namespace Go.Proofs.Ythkobddggoojlaa
open Go.RowKit
set_option linter.unusedVariables false
def intEncF : Enc Int := flatEnc 1 (fun x => [.int .i64 x]) (fun _ => rfl)
theorem slRep_intsF {w : World} {base B : Nat} {v : Value} {l : List Int} {n : Nat} (hn : l.length = n) (hB : w.heap.size ≤ B) (h : w.ownsRow base 3 1 v n (l.map (.int .i64 ·))) : SlRep intEncF w B v l := by
  subst hn
  refine slRep_own (E := intEncF) (base := base) (t := 3) l (l.map fun x => [.int .i64 x]) (fun i x hx => ⟨[.int .i64 x], by rw [List.getElem?_map, hx]; rfl, rfl⟩) ?_ hB ?_
  · intro es he
    obtain ⟨o, _, rfl⟩ := List.mem_map.1 he
    rfl
  · have e : (l.map fun x => [Value.int .i64 x]).flatten = l.map (.int .i64 ·) := by
      clear h
      induction l with
      | nil => rfl
      | cons x l ih => simp only [List.map_cons, List.flatten_cons, List.singleton_append, ih]
    rw [e]; exact h
/-- What the sources' values hold behind m of them. -/
structure FtSrc (f : Int → Option Int) (sl : List Int) (m : Nat) (v : Nat → Int) (all : Bool) : Prop where
  yes : all = true → ∀ j, j < m → f (sl.getD j 0) = some (v j)
  no : all = false → ∃ j, j < m ∧ f (sl.getD j 0) = none
  zero : ∀ j, m ≤ j → v j = 0
theorem FtSrc.start (f : Int → Option Int) (sl : List Int) : FtSrc f sl 0 (fun _ => 0) true := ⟨fun _ j h => (by omega), fun h => (by cases h), fun _ _ => rfl⟩
theorem FtSrc.step {f : Int → Option Int} {sl : List Int} {m : Nat} {v : Nat → Int} {all : Bool} (h : FtSrc f sl m v all) (x : Option Int) (hx : f (sl.getD m 0) = x) (n : Int) (hn : ∀ y, x = some y → n = y) : FtSrc f sl (m + 1) (fun j => if j = m then n else v j) (all && x.isSome) := by
  subst hx
  refine ⟨fun ha j hj => ?_, fun ha => ?_, fun j hj => ?_⟩
  · simp only [Bool.and_eq_true] at ha
    by_cases e : j = m
    · subst e
      simp only [if_true]
      cases hf : f (sl.getD j 0) with
      | none => rw [hf] at ha; cases ha.2
      | some y => rw [hn y hf]
    · simp only [if_neg e]
      exact h.yes ha.1 j (by omega)
  · cases hall : all with
    | false =>
      obtain ⟨j, hj, hf⟩ := h.no hall
      exact ⟨j, by omega, hf⟩
    | true =>
      rw [hall, Bool.true_and] at ha
      refine ⟨m, by omega, ?_⟩
      cases hf : f (sl.getD m 0) with
      | none => rfl
      | some y => rw [hf] at ha; cases ha
  · simp only [if_neg (show ¬ j = m by omega)]
    exact h.zero j (by omega)
end Go.Proofs.Ythkobddggoojlaa
