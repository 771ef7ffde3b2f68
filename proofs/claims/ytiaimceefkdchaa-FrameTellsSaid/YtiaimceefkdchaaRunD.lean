/- Contracts of a run's next block and of its beginning. No condition but those that each theorem names. -/
import Derived.Test.YtiaimceefkdchaaRunC
namespace Go.Proofs.Ytiaimceefkdchaa
open Go.RowKit
set_option maxRecDepth 100000 in
set_option maxHeartbeats 4000000 in
theorem run_next (p : Ir) (av bv : Value) (t : Trm) (ht : t.kind = 1 ∨ (0 ≤ t.a ∧ t.a < p.temps)) (B M gt : Nat) (gs : List Nat) (aav : Value) (s : St) (hf : Fit p s) (hT : p.temps ≤ 1048576) (w : World)
    (hR : RunAt w B M gt gs aav p av bv s) :
    Calls Try.prog 76 #[.pointer (some ⟨M, 0, none⟩), trmVal t] w fun e w' => e = .returned (.int .i64 (nextP s.ts t)) ∧ Below w.heap.size w w' := by
  have hR1 := hR.below (bnew w (.cells #[.int .i64 t.kind, .int .i64 t.a, .int .i64 t.yes, .int .i64 t.no] 53))
  have m5 : (w.alloc (.cells #[.int .i64 t.kind, .int .i64 t.a, .int .i64 t.yes, .int .i64 t.no] 53)).cell? ⟨M, 5, none⟩ = some (.slice (some ⟨gt, 0, none⟩) s.ts.length s.ts.length) := (cell_of_blk hR1.blk 5).1
  have htl := hf.tl
  have hTs : s.ts.length ≤ 1048576 := by omega
  obtain ⟨k, a, y, n⟩ := t
  unfold trmVal nextP
  simp only at ht hR1 m5 ⊢
  by_cases hk : k = 1
  · subst hk
    rw [if_pos rfl]
    clear hR1 m5 ht htl
    go_enter Try.func76, Try.ntmps76
    go_wp2_with fail
    go_ret
    exact ⟨rfl, bnew _ _⟩
  · have q1 : (k == 1) = false := by rw [beq_eq_false_iff_ne]; exact hk
    rw [if_neg hk]
    obtain ⟨a0, a1⟩ : 0 ≤ a ∧ a < (s.ts.length : Int) := by
      rcases ht with h | ⟨h0, h1⟩
      · exact absurd h hk
      · exact ⟨h0, by omega⟩
    obtain ⟨t0, _⟩ := hR1.tempT a a0 a1
    clear hR1 ht htl hk hR hf
    generalize rdT s.ts a = v at *
    by_cases h1 : v = 4294967295
    · subst h1
      rw [if_pos rfl]
      go_enter Try.func76, Try.ntmps76
      go_wp2_with fail
      go_quiet (fail)
      go_wp2_with fail
      go_ret
      exact ⟨rfl, bdrawn (bnew _ _) _⟩
    · have q2 : (v == 4294967295) = false := by rw [beq_eq_false_iff_ne]; exact h1
      rw [if_neg h1]
      by_cases h0 : v = 0
      · subst h0
        rw [if_pos rfl]
        go_enter Try.func76, Try.ntmps76
        go_wp2_with fail
        go_quiet (fail)
        go_wp2_with fail
        go_ret
        exact ⟨rfl, bdrawn (bnew _ _) _⟩
      · have q3 : (v == 0) = false := by rw [beq_eq_false_iff_ne]; exact h0
        rw [if_neg h0]
        clear h1 h0
        go_enter Try.func76, Try.ntmps76
        go_wp2_with fail
        go_quiet (fail)
        go_wp2_with fail
        go_ret
        exact ⟨rfl, bdrawn (bnew _ _) _⟩
end Go.Proofs.Ytiaimceefkdchaa
