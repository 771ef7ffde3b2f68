/- Parts of a proof. No condition but those that each theorem names. -/
import Derived.WalkKit
import Derived.OpenShut
import Derived.Below
import Derived.Lib.Hide
import Derived.Laws.OwnMore
import Derived.Deep.QuietTactic
import Derived.Deep.AppendLies
import Derived.ProofKit
import Derived.SizedLaws
import Derived.Test.YtfadeipdepamlaaProg
import Derived.Handy
import Derived.Deep.RegionHeld3
import Derived.BigQuiet
import Derived.Maps.AppendAt
import Derived.Maps.RangeWalk
import Derived.Maps.OwnSet
import Derived.StillTailTactics
import Derived.Laws.CopyOwn
import Derived.Lib.BufferWrite
import Derived.OrdersHeld
import Derived.RegionTactic
import Derived.Deep.DeepCutAuto
import Derived.Test.YtfadeipdepamlaaSdG0e0
import Derived.Test.YtfadeipdepamlaaSdIr
import Derived.Test.YtfadeipdepamlaaSdG1e4
import Derived.Test.YtfadeipdepamlaaSdCopB
import Derived.Test.YtfadeipdepamlaaSdFoldM
import Derived.Test.YtfadeipdepamlaaSdG4e14
import Derived.Test.YtfadeipdepamlaaSdFtC0
import Derived.Test.YtfadeipdepamlaaSdFtC1
import Derived.Test.YtfadeipdepamlaaSdFtC2
import Derived.Test.YtfadeipdepamlaaSdFtC3
import Derived.Test.YtfadeipdepamlaaSdFtC4
namespace Go.Proofs.Ytfadeipdepamlaa
open Go.RowKit
theorem ref19_Op (l : List Opn) (f : Int → Option Int) (hl : FtOf l f) (A : Option Addr) (c : Nat) (o : Opn) (hn : l.length ≤ 2000000) (w : World) (h : SlRep opEnc w w.heap.size (.slice A l.length c) l) :
    Calls Try.prog 20 #[.slice A l.length c, opVal o] w (CopPost (fdOp f o) w) := by
  obtain ⟨k, d, a, b, cc, i⟩ := o
  unfold opVal
  simp only
  cases hr : fdReck f ⟨k, d, a, b, cc, i⟩ with
  | some N => exact ref19_op_reck l f hl A c k d a b cc i hn N hr w h
  | none =>
    by_cases k3 : k = 3
    · subst k3; exact ref19_op_3 l f hl A c d a b cc i hn hr w h
    by_cases k4 : k = 4
    · subst k4; exact ref19_op_4 l f hl A c d a b cc i hn hr w h
    by_cases k5 : k = 5
    · subst k5; exact ref19_op_5 l f hl A c d a b cc i hn hr w h
    by_cases k7 : k = 7
    · subst k7; exact ref19_op_7 l f hl A c d a b cc i hn hr w h
    by_cases k8 : k = 8
    · subst k8; exact ref19_op_8 l f hl A c d a b cc i hn hr w h
    by_cases k9 : k = 9
    · subst k9; exact ref19_op_9 l f hl A c d a b cc i hn hr w h
    by_cases k11 : k = 11
    · subst k11; exact ref19_op_11 l f hl A c d a b cc i hn hr w h
    by_cases k12 : k = 12
    · subst k12; exact ref19_op_12 l f hl A c d a b cc i hn hr w h
    by_cases k13 : k = 13
    · subst k13; exact ref19_op_13 l f hl A c d a b cc i hn hr w h
    by_cases k14 : k = 14
    · subst k14; exact ref19_op_14 l f hl A c d a b cc i hn hr w h
    by_cases k15 : k = 15
    · subst k15; exact ref19_op_15 l f hl A c d a b cc i hn hr w h
    by_cases k17 : k = 17
    · subst k17; exact ref19_op_17 l f hl A c d a b cc i hn hr w h
    have q : ∀ j : Int, k ≠ j → (k == j) = false := fun j h => by rw [beq_eq_false_iff_ne]; exact h
    exact ref19_op_rest l f hl A c k d a b cc i hn (q 3 k3) (q 4 k4) (q 5 k5) (q 7 k7) (q 8 k8) (q 9 k9) (q 11 k11) (q 12 k12) (q 13 k13) (q 14 k14) (q 15 k15) (q 17 k17) k3 k4 k5 k7 k8 k9 k11 k12 k13 k14 k15 k17 hr w h
end Go.Proofs.Ytfadeipdepamlaa
