/- A program with its temps numbered from the other end: plain definitions; the contract of hauberklaw17.turned. -/
import Derived.Test.YtiaimceefkdchaaRunL
import Derived.Test.YtiaimceefkdchaaOwnB
import Derived.Test.YtiaimceefkdchaaHeld
namespace Go.Proofs.Ytiaimceefkdchaa
open Go.RowKit
set_option linter.unusedVariables false
def turnT (p : Ir) (there : Bool) (t : Int) : Int := if there = true then p.temps - 1 - t else 0
def turnOp (p : Ir) (o : Opn) : Opn := ⟨o.kind, turnT p (fDst o.kind) o.dst, turnT p (decide (0 < fSrc o.kind)) o.a, turnT p (decide (1 < fSrc o.kind)) o.b, turnT p (decide (2 < fSrc o.kind)) o.c, o.imm⟩
def turnTrm (p : Ir) (t : Trm) : Trm := ⟨t.kind, turnT p (decide (t.kind = 2)) t.a, t.yes, t.no⟩
def turnBlk (p : Ir) (b : Blk) : Blk := ⟨b.ops.map (turnOp p), turnTrm p b.term⟩
def turnIr (p : Ir) : Ir := ⟨p.temps, p.arrays, p.blocks.map (turnBlk p), p.inp, p.out⟩
def TurnPost (x : Int) (w : World) (e : Ending) (w' : World) : Prop := e = .returned (.int .i64 x) ∧ Below w.heap.size w w'
theorem law17_turned (p : Ir) (av bv : Value) (th : Bool) (t : Int) (hT : 0 ≤ p.temps ∧ p.temps ≤ 1048576) (ht : th = true → 0 ≤ t ∧ t < p.temps) (w : World) :
    Calls Try.prog 77 #[irVal p av bv, .bool th, .int .i64 t] w (TurnPost (turnT p th t) w) := by
  obtain ⟨h0, h1⟩ := hT
  unfold irVal turnT TurnPost
  cases th with
  | true =>
    obtain ⟨t0, t1⟩ := ht rfl
    rw [if_pos rfl]
    clear ht
    go_enter Try.func77, Try.ntmps77
    go_wp2_with fail
    go_ret
    exact ⟨rfl, bnew _ _⟩
  | false =>
    rw [if_neg (by decide)]
    clear ht
    go_enter Try.func77, Try.ntmps77
    go_wp2_with fail
    go_ret
    exact ⟨rfl, bnew _ _⟩
end Go.Proofs.Ytiaimceefkdchaa
