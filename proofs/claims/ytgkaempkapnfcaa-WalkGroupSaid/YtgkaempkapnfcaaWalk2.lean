/- Contracts of package walk's at, may, place, and of own: what they tell of whole numbers. Conditions stand with each theorem. -/
import Derived.Test.YtgkaempkapnfcaaWalk1
import Derived.Deep.QuietTactic
import Derived.BigQuiet
namespace Go.Proofs.Ytgkaempkapnfcaa
open Go.RowKit

theorem isF_int {x : Nat} {n : Int} (h : IsF x n) (hn : n.natAbs < big) : floatToIntVal .f64 x .i64 = some n := by
  unfold floatToIntVal
  rw [show FloatKind.f64.decode x = Ieee.double.read x from rfl, h.toInt]
  unfold big at hn
  simp only [IntKind.min, IntKind.max, IntKind.signed, IntKind.bits]
  rw [if_pos (by constructor <;> simp <;> omega)]
theorem walk_at (x y u v : Nat) (a b : Int) (k : Nat) (hk : k < 4) (hx : IsF x a) (hy : IsF y b) (hu : IsF u (cosI k)) (hv : IsF v (sinI k)) (ha : a.natAbs < big) (hb : b.natAbs < big) (w : World) :
    Calls Try.prog 71 #[.complex .f64 x y, .complex .f64 u v] w fun e w' => e = .returned (.agg #[.int .i64 a, .int .i64 b, .int .i64 (k : Int)]) ∧ Below w.heap.size w w' := by
  have c1 : ∀ W : World, (convert 56 3 (.float .f64 x)).run Try.prog W = .ok (.int .i64 a) W := fun W => run_convert_float_int W _ _ _ _ _ _ (by kernel_rfl) Try.underlying3 (isF_int hx ha)
  have c2 : ∀ W : World, (convert 56 3 (.float .f64 y)).run Try.prog W = .ok (.int .i64 b) W := fun W => run_convert_float_int W _ _ _ _ _ _ (by kernel_rfl) Try.underlying3 (isF_int hy hb)
  clear hx hy ha hb
  have HU := Lib.hid hu
  have HV := Lib.hid hv
  clear hu hv
  go_enter Try.func71, Try.ntmps71
  go_wp2_with (go_at_call 76; refine (walk_turn _ _ k hk HU.out HV.out _).mono ?_; rintro e w' ⟨rfl, rfl⟩)
  refine bodyPost_ret (v := .agg #[.int .i64 a, .int .i64 b, .int .i64 (k : Int)]) (by simp [results, Try.results71, go_sem]) rfl ⟨rfl, (Below.refl _ _).alloc (Nat.le_refl _) _⟩
theorem ret_bool {a b : Bool} (h : a = b) : Ending.returned (.bool a) = .returned (.bool b) := by rw [h]
/-- May a walk be? -/
def mayB (re im t : Int) : Bool := decide (-1099511627776 ≤ re) && decide (re ≤ 1099511627776) && decide (-1099511627776 ≤ im) && decide (im ≤ 1099511627776) && decide (0 ≤ t) && decide (t < 4)
theorem walk_may (re im t : Int) (w : World) :
    Calls Try.prog 73 #[.agg #[.int .i64 re, .int .i64 im, .int .i64 t]] w fun e w' => e = .returned (.bool (mayB re im t)) ∧ Below w.heap.size w w' := by
  go_enter Try.func73, Try.ntmps73
  by_cases h1 : -1099511627776 ≤ re
  all_goals
    go_wp2
  all_goals
    go_ret
    exact ⟨ret_bool (by unfold mayB; rw [Bool.eq_iff_iff]; simp; omega), (Below.refl _ _).alloc (Nat.le_refl _) _⟩
theorem intToFloat_run {src dst : TypeId} (hs : Try.prog.underlying src = some (.int .i64)) (hd : Try.prog.underlying dst = some (.float .f64)) (n : Int) (W : World) :
    (convert src dst (.int .i64 n)).run Try.prog W = .ok (.float .f64 (FloatKind.f64.nearest n)) W := by
  simp [convert, run_underlying hs, run_underlying hd, Conv.intToFloat]
theorem walk_place (re im t : Int) (w : World) :
    Calls Try.prog 74 #[.agg #[.int .i64 re, .int .i64 im, .int .i64 t]] w fun e w' => e = .returned (.complex .f64 (FloatKind.f64.nearest re) (FloatKind.f64.nearest im)) ∧ Below w.heap.size w w' := by
  have c1 := intToFloat_run Try.underlying3 Try.underlying56
  go_enter Try.func74, Try.ntmps74
  go_wp2
  go_ret
  exact ⟨rfl, (Below.refl _ _).alloc (Nat.le_refl _) _⟩
theorem law36_own (re im t : Int) (w : World) :
    Calls Try.prog 50 #[.agg #[.int .i64 re, .int .i64 im, .int .i64 t]] w fun e w' => e = .returned (.agg #[.int .i64 re, .int .i64 im, .int .i64 t]) ∧ Below w.heap.size w w' := by
  go_enter Try.func50, Try.ntmps50
  go_wp2
  refine bodyPost_ret (v := .agg #[.int .i64 re, .int .i64 im, .int .i64 t]) (by simp [results, Try.results50, go_sem]) rfl ⟨rfl, ((Below.refl _ _).alloc (Nat.le_refl _) _).alloc (by simp) _⟩
/-- A pair turned left so many times. -/
def rotX (x y : Int) : Nat → Int
  | 0 => x
  | 1 => -y
  | 2 => -x
  | _ => y
def rotY (x y : Int) : Nat → Int
  | 0 => y
  | 1 => x
  | 2 => -y
  | _ => -x
theorem rotX_eq (x y : Int) (k : Nat) (hk : k < 4) : rotX x y k = x * cosI k - y * sinI k := by
  match k, hk with
  | 0, _ | 1, _ | 2, _ | 3, _ => simp [rotX, cosI, sinI]
theorem rotY_eq (x y : Int) (k : Nat) (hk : k < 4) : rotY x y k = x * sinI k + y * cosI k := by
  match k, hk with
  | 0, _ | 1, _ | 2, _ | 3, _ => simp [rotY, cosI, sinI]
theorem ref36_left (x y : Int) (hx : -4611686018427387904 ≤ x) (hx' : x ≤ 4611686018427387904) (hy : -4611686018427387904 ≤ y) (hy' : y ≤ 4611686018427387904) (k : Nat) (hk : k < 4) (w : World) :
    Calls Try.prog 72 #[.int .i64 x, .int .i64 y, .int .i64 (k : Int)] w fun e w' => e = .returned (.tuple #[.int .i64 (rotX x y k), .int .i64 (rotY x y k)]) ∧ w = w' := by
  have h : k = 0 ∨ k = 1 ∨ k = 2 ∨ k = 3 := by omega
  have e0 : ((0 : Nat) : Int) = 0 := rfl
  have e1 : ((1 : Nat) : Int) = 1 := rfl
  have e2 : ((2 : Nat) : Int) = 2 := rfl
  have e3 : ((3 : Nat) : Int) = 3 := rfl
  clear hk
  rcases h with rfl | rfl | rfl | rfl
  · rw [e0]
    clear e0 e1 e2 e3
    go_enter Try.func72, Try.ntmps72
    go_wp2
    refine wp_loop_rounds 5 ?_
    rw [rounds_succ]
    go_wp2_with (rw [rounds_succ])
    go_ret2
    exact ⟨rfl, rfl⟩
  · rw [e1]
    clear e0 e1 e2 e3
    go_enter Try.func72, Try.ntmps72
    go_wp2
    refine wp_loop_rounds 5 ?_
    rw [rounds_succ]
    go_wp2_with (rw [rounds_succ])
    go_ret2
    exact ⟨rfl, rfl⟩
  · rw [e2]
    clear e0 e1 e2 e3
    go_enter Try.func72, Try.ntmps72
    go_wp2
    refine wp_loop_rounds 5 ?_
    rw [rounds_succ]
    go_wp2_with (rw [rounds_succ])
    go_ret2
    exact ⟨rfl, rfl⟩
  · rw [e3]
    clear e0 e1 e2 e3
    go_enter Try.func72, Try.ntmps72
    go_wp2
    refine wp_loop_rounds 5 ?_
    rw [rounds_succ]
    go_wp2_with (rw [rounds_succ])
    go_ret2
    exact ⟨rfl, rfl⟩
end Go.Proofs.Ytgkaempkapnfcaa
