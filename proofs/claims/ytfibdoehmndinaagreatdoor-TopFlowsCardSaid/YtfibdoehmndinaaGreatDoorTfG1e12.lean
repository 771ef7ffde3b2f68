/- Parts of a proof. No condition but those that each theorem names. -/
import Derived.Test.YtfibdoehmndinaaGreatDoorTfEvU
namespace Go.Proofs.YtfibdoehmndinaaGreatDoor
open Go.RowKit
set_option maxRecDepth 100000
set_option linter.unusedVariables false
theorem zwR:∀k,zOI k
 | 0=>⟨fun _ _ _ _ _ _ _ _ _ _ _ _ _ x _ _ _ _ _ h=>absurd (by unfold tVal;rfl) h,fun _ _ _ _ _ _ _ _ _ _ _ _ _ x _ _ _ _ _ h=>absurd (by unfold zQ3;rfl) h,
  fun _ _ _ _ _ _ _ _ _ _ _ _ _ _ _ _ _ _ _ _ _ h=>absurd (by unfold zK;rfl) h,by intros;rename_i h;exact absurd (by unfold z8H;rfl) h⟩
 | k+1=>⟨zGv (zwR k),z1R (zwR k),zkF (zwR k),zVf (zwR k)⟩
end Go.Proofs.YtfibdoehmndinaaGreatDoor
