/- Contracts of package memmap and of hauberkref05: whether sizes may be. No condition but those that each theorem names. -/
import Derived.WalkKit
import Derived.WalkLawsBesides
import Derived.ProofKit
import Derived.OpenShut
import Derived.Lib.Hide
import Derived.Test.YtgipelnjbpkfjaaProg
namespace Go.Proofs.Ytgipelnjbpkfjaa
open Go.RowKit

theorem ret_int {k : IntKind} {a b : Int} (h : a = b) : Ending.returned (.int k a) = .returned (.int k b) := by rw [h]
theorem ret_bool {a b : Bool} (h : a = b) : Ending.returned (.bool a) = .returned (.bool b) := by rw [h]
/-- Two steps of growth, one behind the other. -/
theorem bch {a b c : World} (h : Below a.heap.size a b) (k : Below b.heap.size b c) : Below a.heap.size a c := h.trans (k.mono h.size)
theorem bal {a w : World} (h : Below a.heap.size a w) (o : Obj) : Below a.heap.size a (w.alloc o) := h.alloc h.size o
theorem lt_of_blk {w : World} {g : Nat} {o : Obj} (h : w.heap[g]? = some o) : g < w.heap.size := by
  rcases Nat.lt_or_ge g w.heap.size with h1 | h1
  · exact h1
  · rw [Array.getElem?_eq_none h1] at h; cases h
theorem cell_of_blk {w : World} {g : Nat} {cs : Array Value} {t : TypeId} (h : w.heap[g]? = some (.cells cs t (0, 0))) (i : Nat) : w.cell? ⟨g, i, none⟩ = cs[i]? ∧ w.frozen? ⟨g, i, none⟩ = false :=
  ⟨cell_of_row w g i cs t (0, 0) h, by simp [World.frozen?, h]⟩
/-- May a size be? -/
def szBad (n : Int) : Prop := n < 0 ∨ n % 4 ≠ 0
instance (n : Int) : Decidable (szBad n) := by unfold szBad; infer_instance
/-- The error of sizes, as a number. -/
def mmCheck (i o r f : Int) : Int :=
  if szBad i ∨ szBad o ∨ szBad r ∨ f < 0 ∨ r < 4 then 2 else if 262144 < f ∨ 65536 < i ∨ 65536 < o ∨ 65536 < r then 5 else 0
set_option maxHeartbeats 2000000 in
theorem memmap_Check (i o r f : Int) (w : World) :
    Calls Try.prog 17 #[.agg #[.int .i64 i, .int .i64 o, .int .i64 r], .int .i64 f] w fun e w' => e = .returned (.int .i64 (mmCheck i o r f)) ∧ Below w.heap.size w w' := by
  go_enter Try.func17, Try.ntmps17
  by_cases h1 : 262144 < f
  all_goals
    go_wp2
    refine wp_loop_rounds 4 ?_
    rw [rounds_succ]
    go_wp2_with (rw [rounds_succ])
  all_goals
    go_ret
    refine ⟨ret_int ?_, (Below.refl _ _).alloc (Nat.le_refl _) _ |>.alloc (by simp) _⟩
  all_goals
    go_tidy
    try simp only [bne_eq_false_iff_eq, bne_iff_ne, ne_eq] at *
    unfold mmCheck szBad
    split
    · omega
    · split <;> omega
def mn (x y : Int) : Int := if y < x then y else x
def mn4 (a b c d : Int) : Int := mn (mn (mn a b) c) d
def mx3 (a b c : Int) : Int := if c > (if b > a then b else a) then c else (if b > a then b else a)
theorem mn4_neg (a b c d : Int) : mn4 a b c d < 0 ↔ a < 0 ∨ b < 0 ∨ c < 0 ∨ d < 0 := by
  unfold mn4 mn; split <;> split <;> split <;> omega
theorem mx3_gt (a b c M : Int) : M < mx3 a b c ↔ M < a ∨ M < b ∨ M < c := by
  unfold mx3; split <;> split <;> omega
theorem run_mn4 (P : Program) (ts : Array TypeId) (t : TypeId) (W : World) (a b c d : Int) : (Builtin.min_ ts t #[.int .i64 a, .int .i64 b, .int .i64 c, .int .i64 d]).run P W = .ok (.int .i64 (mn4 a b c d)) W := by
  simp [Builtin.min_, Builtin.min2]; rfl
theorem run_mx3 (P : Program) (ts : Array TypeId) (t : TypeId) (W : World) (a b c : Int) : (Builtin.max_ ts t #[.int .i64 a, .int .i64 b, .int .i64 c]).run P W = .ok (.int .i64 (mx3 a b c)) W := run_max_int3 W ts t _ _ _ a b c
set_option maxHeartbeats 2000000 in
theorem ref05_Check (i o r f : Int) (hr : -9223372036854775808 ≤ r ∧ r ≤ 9223372036854775807) (w : World) :
    Calls Try.prog 18 #[.agg #[.int .i64 i, .int .i64 o, .int .i64 r], .int .i64 f] w fun e w' => e = .returned (.int .i64 (mmCheck i o r f)) ∧ Below w.heap.size w w' := by
  have m4 := run_mn4 Try.prog
  have m3 := run_mx3 Try.prog
  by_cases hn : mn4 i o (wrap64 (r - 4)) f < 0
  · go_enter Try.func18, Try.ntmps18
    go_wp2
    all_goals
      go_ret
      refine ⟨ret_int ?_, (Below.refl _ _).alloc (Nat.le_refl _) _⟩
      rw [mn4_neg] at hn
      go_tidy
      unfold mmCheck szBad
      rw [if_pos (by unfold wrap64 at hn; omega)]
  · have hn2 : 0 ≤ i ∧ 0 ≤ o ∧ 0 ≤ wrap64 (r - 4) ∧ 0 ≤ f := by rw [mn4_neg] at hn; omega
    obtain ⟨p1, p2, p3, p4⟩ := hn2
    have hn3 : 0 ≤ mn4 i o (wrap64 (r - 4)) f := by omega
    clear hn
    by_cases hr4 : r < 4
    · go_enter Try.func18, Try.ntmps18
      go_wp2
      all_goals
        go_ret
        refine ⟨ret_int ?_, (Below.refl _ _).alloc (Nat.le_refl _) _⟩
        go_tidy
        unfold mmCheck szBad
        rw [if_pos (by omega)]
    · have hw : wrap64 (r - 4) = r - 4 := by unfold wrap64; omega
      rw [hw] at hn3
      clear hw p3
      go_enter Try.func18, Try.ntmps18
      go_wp2
      all_goals
        go_ret
        refine ⟨ret_int ?_, (Below.refl _ _).alloc (Nat.le_refl _) _⟩
      all_goals
        go_tidy
        try simp only [bne_eq_false_iff_eq, bne_iff_ne, ne_eq] at *
        have hx := mx3_gt i o r 65536
        unfold mmCheck szBad
        split
        · omega
        · split <;> omega
end Go.Proofs.Ytgipelnjbpkfjaa
