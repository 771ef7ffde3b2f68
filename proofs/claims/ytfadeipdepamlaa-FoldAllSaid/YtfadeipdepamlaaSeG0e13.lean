/- Parts of a proof. No condition but those that each theorem names. -/
import Derived.WalkKit
import Derived.OpenShut
import Derived.Below
import Derived.Lib.Hide
import Derived.Laws.OwnMore
import Derived.Deep.QuietTactic
import Derived.Deep.AppendLies
import Derived.ProofKit
import Derived.SizedLaws
import Derived.Test.YtfadeipdepamlaaProg
import Derived.Handy
import Derived.Deep.RegionHeld3
import Derived.BigQuiet
import Derived.Maps.AppendAt
import Derived.StillTailTactics
import Derived.Laws.CopyOwn
import Derived.Lib.BufferWrite
import Derived.OrdersHeld
import Derived.RegionTactic
import Derived.Test.YtfadeipdepamlaaSeG0e8
namespace Go.Proofs.Ytfadeipdepamlaa
open Go.RowKit
set_option linter.unusedVariables false
structure TR (T : Int) (a b : List Int) : Prop where
  la : a.length = T.toNat
  lb : T.toNat ≤ b.length
  at_ : ∀ i : Nat, i < T.toNat → b.getD (T.toNat - 1 - i) 0 = a.getD i 0
theorem TR.set {T : Int} {a b : List Int} (h : TR T a b) (t : Int) (h0 : 0 ≤ t) (h1 : t < T) (v : Int) : TR T (a.set t.toNat v) (b.set (T - 1 - t).toNat v) := by
  have hla := h.la
  have hlb := h.lb
  refine ⟨by simpa using hla, by simpa using hlb, fun i hi => ?_⟩
  by_cases e : i = t.toNat
  · subst e
    rw [show T.toNat - 1 - t.toNat = (T - 1 - t).toNat by omega, getD_set_self _ _ _ _ (by omega), getD_set_self _ _ _ _ (by omega)]
  · rw [getD_set_ne _ _ _ _ _ (by omega), getD_set_ne _ _ _ _ _ (fun h => e h.symm)]
    exact h.at_ i hi
end Go.Proofs.Ytfadeipdepamlaa
