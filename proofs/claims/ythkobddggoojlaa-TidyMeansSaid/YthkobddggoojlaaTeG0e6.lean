/- Parts of a proof. No condition but those that each theorem names. -/
import Derived.WalkKit
import Derived.OpenShut
import Derived.Below
import Derived.Lib.Hide
import Derived.Laws.OwnMore
import Derived.Deep.QuietTactic
import Derived.Deep.AppendLies
import Derived.ProofKit
import Derived.SizedLaws
import Derived.Test.YthkobddggoojlaaProg
import Derived.Handy
import Derived.Deep.RegionHeld3
import Derived.BigQuiet
import Derived.Maps.AppendAt
import Derived.Test.YthkobddggoojlaaTeG0e0
import Derived.Test.YthkobddggoojlaaTeG0e2
namespace Go.Proofs.Ythkobddggoojlaa
open Go.ChangeShapes Go.WideShapes Go.ChangeAt Go.RowKit
theorem intR_small (n : Int) (h0 : -1000 ≤ n) (h1 : n ≤ 1000) : IntR n := by unfold IntR; omega
/-- A slice of one element in a block of its own. -/
theorem slRep_one {T : Type} {E : Enc T} {w : World} {B g : Nat} {t : TypeId} {es : List Value} {x : T} (hb : w.heap[g]? = some (.cells es.toArray t (0, 0))) (hB : g < B) (hr : E.rep w B es x) : SlRep E w B (.slice (some ⟨g, 0, none⟩) 1 1) [x] := by
  refine ⟨some ⟨g, 0, none⟩, 1, rfl, by simp, fun k u hk => ?_⟩
  have hk0 : k = 0 := by
    cases k with
    | zero => rfl
    | succ k => simp at hk
  subst hk0
  simp at hk
  subst hk
  refine ⟨g, 0, es, rfl, hB, hr, fun j u hu => ?_⟩
  have := (cell_of_blk hb j).1
  rw [show 0 + 0 * E.size + j = j by omega, this]
  simpa using hu
theorem bdr {B : Nat} {a w : World} (h : Below B a w) : Below B a w.drew := ⟨h.os, h.tape, h.output, h.size, h.block⟩
end Go.Proofs.Ythkobddggoojlaa
