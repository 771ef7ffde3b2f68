/- Contract of ir.Run. No condition but those that the theorem names. -/
import Derived.Test.YtiaimceefkdchaaRunH
namespace Go.Proofs.Ytiaimceefkdchaa
open Go.RowKit
set_option linter.unusedVariables false
section
variable {p : Ir} {at_ : Int} {j m : Nat} {s s' : St}
theorem runP_op_none (h : at_ ≠ -1) (hj : j < (p.blocks.getD at_.toNat blkNone).ops.length) (hs : stepP p s ((p.blocks.getD at_.toNat blkNone).ops.getD j opNone) = none) : runP p (m + 1) at_ j s = (bE, 19) := by
  rw [runP_succ p m at_ j s h]; unfold mStep; rw [if_pos hj, hs]
theorem runP_op_some (h : at_ ≠ -1) (hj : j < (p.blocks.getD at_.toNat blkNone).ops.length) (hs : stepP p s ((p.blocks.getD at_.toNat blkNone).ops.getD j opNone) = some s') : runP p (m + 1) at_ j s = runP p m at_ (j + 1) s' := by
  rw [runP_succ p m at_ j s h]; unfold mStep; rw [if_pos hj, hs]
theorem runP_halt (h : at_ ≠ -1) (hk : (p.blocks.getD at_.toNat blkNone).term.kind = 3) : runP p (m + 1) at_ (p.blocks.getD at_.toNat blkNone).ops.length s = (outP p s, 0) := by
  rw [runP_succ p m at_ _ s h]; unfold mStep; rw [if_neg (by omega), if_pos hk]
theorem runP_next (h : at_ ≠ -1) (hk : (p.blocks.getD at_.toNat blkNone).term.kind ≠ 3) : runP p (m + 1) at_ (p.blocks.getD at_.toNat blkNone).ops.length s = runP p m (nextP s.ts (p.blocks.getD at_.toNat blkNone).term) 0 s := by
  rw [runP_succ p m at_ _ s h]; unfold mStep; rw [if_neg (by omega), if_neg hk]
end
theorem nextP_label {p : Ir} {t : Trm} (ht : trmP p t) (hk : t.kind ≠ 3) (ts : List Int) : labelP p (nextP ts t) := by
  unfold nextP
  rcases ht with ⟨h1, _, _, h2⟩ | ⟨h1, _, h2, h3⟩ | ⟨h1, _⟩
  · rw [if_pos h1]; exact h2
  · rw [if_neg (by omega)]
    split
    · exact h2
    · split
      · exact h3
      · unfold labelP; omega
  · exact absurd h1 hk
def RunPost (r : ByteArray × Int) (w : World) (e : Ending) (w' : World) : Prop := e = .returned (.tuple #[.string r.1, .int .i64 r.2]) ∧ Below w.heap.size w w'
set_option maxRecDepth 100000 in
set_option maxHeartbeats 8000000 in
theorem run_bad (p : Ir) (av bv : Value) (hf : p.fine) (input : ByteArray) (budget : Int) (w : World) (hI : IrRep w w.heap.size p av bv) (he : irErr p ≠ 0) :
    Calls Try.prog 43 #[irVal p av bv, .string input, .int .i64 budget] w (RunPost (bE, irErr p) w) := by
  have HC := Lib.hid (fun W h => ir_Check p av bv hf W h)
  have HI := Lib.hid hI
  have q : (irErr p != 0) = true := by rw [bne_iff_ne]; exact he
  unfold irVal at *
  unfold RunPost
  generalize irErr p = fe at *
  clear hI he
  go_enter Try.func43, Try.ntmps43
  go_wp2_with fail
  refine (HC.out _ (HI.out.next (bnew _ _))).mono ?_
  rintro e w2 ⟨rfl, hb⟩
  have HB := Lib.hid (bch (bnew _ _) hb)
  clear hb
  go_wp2_with fail
  go_ret2
  exact ⟨rfl, HB.out⟩
set_option maxRecDepth 100000 in
set_option maxHeartbeats 8000000 in
theorem run_arg (p : Ir) (av bv : Value) (hf : p.fine) (input : ByteArray) (hsz : input.size ≤ maxLen) (budget : Int) (w : World) (hI : IrRep w w.heap.size p av bv) (he : irErr p = 0) (h : (input.size : Int) ≠ p.inp ∨ ¬ (0 ≤ budget ∧ budget ≤ 67108864)) :
    Calls Try.prog 43 #[irVal p av bv, .string input, .int .i64 budget] w (RunPost (bE, 2) w) := by
  have HC := Lib.hid (fun W h => ir_Check p av bv hf W h)
  have HW := Lib.hid (fun W => ir_within budget 0 67108864 W)
  have HI := Lib.hid hI
  unfold maxLen at hsz
  rw [he] at HC
  unfold irVal at *
  unfold RunPost
  clear hI he
  by_cases hi : (input.size : Int) = p.inp
  · have hb0 : ¬ (0 ≤ budget ∧ budget ≤ 67108864) := by
      rcases h with h | h
      · exact absurd hi h
      · exact h
    rw [decide_eq_false hb0] at HW
    have q : ((input.size : Int) != p.inp) = false := by rw [bne_eq_false_iff_eq]; exact hi
    have HIN := Lib.hid hi
    clear hb0 h hi
    go_enter Try.func43, Try.ntmps43
    go_wp2_with fail
    refine (HC.out _ (HI.out.next (bnew _ _))).mono ?_
    rintro e w2 ⟨rfl, hb⟩
    have hx := (hb.block w.heap.size (by simp)).trans (heap_alloc_new w _)
    have c3 : w2.cell? ⟨w.heap.size, 3, none⟩ = some (.int .i64 p.inp) := (cell_of_blk hx 3).1
    have HB := Lib.hid (bch (bnew _ _) hb)
    clear hb hx
    go_wp2_with fail
    refine (HW.out _).mono ?_
    rintro e w3 ⟨rfl, rfl⟩
    go_wp2_with fail
    go_ret2
    exact ⟨rfl, HB.out⟩
  · have q : ((input.size : Int) != p.inp) = true := by rw [bne_iff_ne]; exact hi
    clear hi h
    go_enter Try.func43, Try.ntmps43
    go_wp2_with fail
    refine (HC.out _ (HI.out.next (bnew _ _))).mono ?_
    rintro e w2 ⟨rfl, hb⟩
    have hx := (hb.block w.heap.size (by simp)).trans (heap_alloc_new w _)
    have c3 : w2.cell? ⟨w.heap.size, 3, none⟩ = some (.int .i64 p.inp) := (cell_of_blk hx 3).1
    have HB := Lib.hid (bch (bnew _ _) hb)
    clear hb hx
    go_wp2_with fail
    go_ret2
    exact ⟨rfl, HB.out⟩
end Go.Proofs.Ytiaimceefkdchaa
