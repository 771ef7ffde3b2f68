/- Parts of a proof. No condition but those that each theorem names. -/
import Derived.WalkKit
import Derived.OpenShut
import Derived.Below
import Derived.Lib.Hide
import Derived.Laws.OwnMore
import Derived.Deep.QuietTactic
import Derived.Deep.AppendLies
import Derived.ProofKit
import Derived.SizedLaws
import Derived.Test.YthkobddggoojlaaProg
import Derived.Handy
import Derived.Deep.RegionHeld3
import Derived.BigQuiet
import Derived.Maps.AppendAt
import Derived.Maps.RangeWalk
import Derived.Maps.OwnSet
namespace Go.Proofs.Ythkobddggoojlaa
open Go.RowKit Go.Maps
set_option linter.unusedVariables false
def cpOf (f : Int → Option Int) (t : Int) : Int := (f t).getD t
def cpForget (f : Int → Option Int) (t : Int) (k : Int) : Option Int := if k = t then none else if f k = some t then none else f k
end Go.Proofs.Ythkobddggoojlaa
