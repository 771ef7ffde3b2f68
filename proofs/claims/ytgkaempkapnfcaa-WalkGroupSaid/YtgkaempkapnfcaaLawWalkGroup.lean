/- The Go function WalkGroup returns true on every input and leaves its arguments as they were. No condition. -/
import Derived.Test.YtgkaempkapnfcaaRows
import Derived.WalkKit
import Derived.ProofKit
import Derived.OpenShut
import Derived.Test.YtgkaempkapnfcaaLawKit
import Derived.SizedLaws
import Derived.Test.YtgkaempkapnfcaaGroupM
import Derived.Test.YtgkaempkapnfcaaWkOpen
import Derived.Test.YtgkaempkapnfcaaEvOpen
import Derived.Test.YtgkaempkapnfcaaInv
namespace Go.Proofs.Ytgkaempkapnfcaa.walkGroup
open Go.ChangeShapes Go.WideShapes Go.ChangeAt Go.RowKit
set_option linter.unusedVariables false

theorem far0 (a1 a2 a3 b1 b2 b3 c1 c2 c3 : Int) (w : World) (h0 : a1 ≤ -274877906944) : Calls Try.prog 11 #[.agg #[.int .i64 a1, .int .i64 a2, .int .i64 a3], .agg #[.int .i64 b1, .int .i64 b2, .int .i64 b3], .agg #[.int .i64 c1, .int .i64 c2, .int .i64 c3]] w fun e w' => e = .returned (.bool true) ∧ Below w.heap.size w w' := by
  have hmx := run_max12 Try.prog
  go_enter Try.func11, Try.ntmps11
  go_wp2_with (go_at_call 52; refine (law36_lives _).mono ?_; rintro e w9 ⟨rfl, hb9⟩)
  go_ret
  exact ⟨rfl, (((Below.refl _ _).alloc (Nat.le_refl _) _).alloc (by simp) _ |>.alloc (by simp; omega) _).trans (hb9.mono (by simp; omega))⟩
theorem far1 (a1 a2 a3 b1 b2 b3 c1 c2 c3 : Int) (w : World) (h0 : -274877906944 < a1) (h1 : a2 ≤ -274877906944) : Calls Try.prog 11 #[.agg #[.int .i64 a1, .int .i64 a2, .int .i64 a3], .agg #[.int .i64 b1, .int .i64 b2, .int .i64 b3], .agg #[.int .i64 c1, .int .i64 c2, .int .i64 c3]] w fun e w' => e = .returned (.bool true) ∧ Below w.heap.size w w' := by
  have hmx := run_max12 Try.prog
  go_enter Try.func11, Try.ntmps11
  go_wp2_with (go_at_call 52; refine (law36_lives _).mono ?_; rintro e w9 ⟨rfl, hb9⟩)
  go_ret
  exact ⟨rfl, (((Below.refl _ _).alloc (Nat.le_refl _) _).alloc (by simp) _ |>.alloc (by simp; omega) _).trans (hb9.mono (by simp; omega))⟩
theorem far2 (a1 a2 a3 b1 b2 b3 c1 c2 c3 : Int) (w : World) (h0 : -274877906944 < a1) (h1 : -274877906944 < a2) (h2 : b1 ≤ -274877906944) : Calls Try.prog 11 #[.agg #[.int .i64 a1, .int .i64 a2, .int .i64 a3], .agg #[.int .i64 b1, .int .i64 b2, .int .i64 b3], .agg #[.int .i64 c1, .int .i64 c2, .int .i64 c3]] w fun e w' => e = .returned (.bool true) ∧ Below w.heap.size w w' := by
  have hmx := run_max12 Try.prog
  go_enter Try.func11, Try.ntmps11
  go_wp2_with (go_at_call 52; refine (law36_lives _).mono ?_; rintro e w9 ⟨rfl, hb9⟩)
  go_ret
  exact ⟨rfl, (((Below.refl _ _).alloc (Nat.le_refl _) _).alloc (by simp) _ |>.alloc (by simp; omega) _).trans (hb9.mono (by simp; omega))⟩
theorem far3 (a1 a2 a3 b1 b2 b3 c1 c2 c3 : Int) (w : World) (h0 : -274877906944 < a1) (h1 : -274877906944 < a2) (h2 : -274877906944 < b1) (h3 : b2 ≤ -274877906944) : Calls Try.prog 11 #[.agg #[.int .i64 a1, .int .i64 a2, .int .i64 a3], .agg #[.int .i64 b1, .int .i64 b2, .int .i64 b3], .agg #[.int .i64 c1, .int .i64 c2, .int .i64 c3]] w fun e w' => e = .returned (.bool true) ∧ Below w.heap.size w w' := by
  have hmx := run_max12 Try.prog
  go_enter Try.func11, Try.ntmps11
  go_wp2_with (go_at_call 52; refine (law36_lives _).mono ?_; rintro e w9 ⟨rfl, hb9⟩)
  go_ret
  exact ⟨rfl, (((Below.refl _ _).alloc (Nat.le_refl _) _).alloc (by simp) _ |>.alloc (by simp; omega) _).trans (hb9.mono (by simp; omega))⟩
theorem far4 (a1 a2 a3 b1 b2 b3 c1 c2 c3 : Int) (w : World) (h0 : -274877906944 < a1) (h1 : -274877906944 < a2) (h2 : -274877906944 < b1) (h3 : -274877906944 < b2) (h4 : c1 ≤ -274877906944) : Calls Try.prog 11 #[.agg #[.int .i64 a1, .int .i64 a2, .int .i64 a3], .agg #[.int .i64 b1, .int .i64 b2, .int .i64 b3], .agg #[.int .i64 c1, .int .i64 c2, .int .i64 c3]] w fun e w' => e = .returned (.bool true) ∧ Below w.heap.size w w' := by
  have hmx := run_max12 Try.prog
  go_enter Try.func11, Try.ntmps11
  go_wp2_with (go_at_call 52; refine (law36_lives _).mono ?_; rintro e w9 ⟨rfl, hb9⟩)
  go_ret
  exact ⟨rfl, (((Below.refl _ _).alloc (Nat.le_refl _) _).alloc (by simp) _ |>.alloc (by simp; omega) _).trans (hb9.mono (by simp; omega))⟩
theorem far5 (a1 a2 a3 b1 b2 b3 c1 c2 c3 : Int) (w : World) (h0 : -274877906944 < a1) (h1 : -274877906944 < a2) (h2 : -274877906944 < b1) (h3 : -274877906944 < b2) (h4 : -274877906944 < c1) (h5 : c2 ≤ -274877906944) : Calls Try.prog 11 #[.agg #[.int .i64 a1, .int .i64 a2, .int .i64 a3], .agg #[.int .i64 b1, .int .i64 b2, .int .i64 b3], .agg #[.int .i64 c1, .int .i64 c2, .int .i64 c3]] w fun e w' => e = .returned (.bool true) ∧ Below w.heap.size w w' := by
  have hmx := run_max12 Try.prog
  go_enter Try.func11, Try.ntmps11
  go_wp2_with (go_at_call 52; refine (law36_lives _).mono ?_; rintro e w9 ⟨rfl, hb9⟩)
  go_ret
  exact ⟨rfl, (((Below.refl _ _).alloc (Nat.le_refl _) _).alloc (by simp) _ |>.alloc (by simp; omega) _).trans (hb9.mono (by simp; omega))⟩
theorem far6 (a1 a2 a3 b1 b2 b3 c1 c2 c3 : Int) (w : World) (h0 : -274877906944 < a1) (h1 : -274877906944 < a2) (h2 : -274877906944 < b1) (h3 : -274877906944 < b2) (h4 : -274877906944 < c1) (h5 : -274877906944 < c2) (hM : ¬ maxl a1 [wrap64 (-a1), a2, wrap64 (-a2), b1, wrap64 (-b1), b2, wrap64 (-b2), c1, wrap64 (-c1), c2, wrap64 (-c2)] < 274877906944) : Calls Try.prog 11 #[.agg #[.int .i64 a1, .int .i64 a2, .int .i64 a3], .agg #[.int .i64 b1, .int .i64 b2, .int .i64 b3], .agg #[.int .i64 c1, .int .i64 c2, .int .i64 c3]] w fun e w' => e = .returned (.bool true) ∧ Below w.heap.size w w' := by
  have hmx := run_max12 Try.prog
  have hM2 : 274877906944 ≤ maxl a1 [wrap64 (-a1), a2, wrap64 (-a2), b1, wrap64 (-b1), b2, wrap64 (-b2), c1, wrap64 (-c1), c2, wrap64 (-c2)] := by omega
  clear hM
  go_enter Try.func11, Try.ntmps11
  go_wp2_with (go_at_call 52; refine (law36_lives _).mono ?_; rintro e w9 ⟨rfl, hb9⟩)
  go_ret
  exact ⟨rfl, (((Below.refl _ _).alloc (Nat.le_refl _) _).alloc (by simp) _ |>.alloc (by simp; omega) _).trans (hb9.mono (by simp; omega))⟩
theorem nomay0 (a1 a2 a3 b1 b2 b3 c1 c2 c3 : Int) (w : World) (p0 : -274877906944 < a1) (q0 : a1 < 274877906944) (p1 : -274877906944 < a2) (q1 : a2 < 274877906944) (p2 : -274877906944 < b1) (q2 : b1 < 274877906944) (p3 : -274877906944 < b2) (q3 : b2 < 274877906944) (p4 : -274877906944 < c1) (q4 : c1 < 274877906944) (p5 : -274877906944 < c2) (q5 : c2 < 274877906944) (ma : mayB a1 a2 a3 = false) : Calls Try.prog 11 #[.agg #[.int .i64 a1, .int .i64 a2, .int .i64 a3], .agg #[.int .i64 b1, .int .i64 b2, .int .i64 b3], .agg #[.int .i64 c1, .int .i64 c2, .int .i64 c3]] w fun e w' => e = .returned (.bool true) ∧ Below w.heap.size w w' := by
  have hmx := run_max12 Try.prog
  have hM : maxl a1 [-a1, a2, -a2, b1, -b1, b2, -b2, c1, -c1, c2, -c2] < 274877906944 := by
    rw [maxl_lt]
    simp only [List.mem_cons, forall_eq_or_imp, List.not_mem_nil, false_implies, implies_true, and_true]
    omega
  go_enter Try.func11, Try.ntmps11
  go_wp2_with fail
  have hv0 := heap_two w (Obj.cells #[Value.int IntKind.i64 a1, Value.int IntKind.i64 a2, Value.int IntKind.i64 a3] 33) (Obj.cells #[Value.int IntKind.i64 b1, Value.int IntKind.i64 b2, Value.int IntKind.i64 b3] 33) (Obj.cells #[Value.int IntKind.i64 c1, Value.int IntKind.i64 c2, Value.int IntKind.i64 c3] 33)
  generalize ((w.alloc (Obj.cells #[Value.int IntKind.i64 a1, Value.int IntKind.i64 a2, Value.int IntKind.i64 a3] 33)).alloc (Obj.cells #[Value.int IntKind.i64 b1, Value.int IntKind.i64 b2, Value.int IntKind.i64 b3] 33)).alloc (Obj.cells #[Value.int IntKind.i64 c1, Value.int IntKind.i64 c2, Value.int IntKind.i64 c3] 33) = W1 at *
  obtain ⟨hz, hbw, hx0, hx1, hx2⟩ := hv0
  have HX := Lib.hid (⟨hbw, hz⟩ : Below w.heap.size w W1 ∧ W1.heap.size = w.heap.size + 1 + 1 + 1)
  have HX0 := Lib.hid hx0
  have HX1 := Lib.hid hx1
  have HX2 := Lib.hid hx2
  have hlt0 : w.heap.size < W1.heap.size := by omega
  have hlt1 : w.heap.size + 1 < W1.heap.size := by omega
  have hlt2 : w.heap.size + 1 + 1 < W1.heap.size := by omega
  clear hz hbw hx0 hx1 hx2 hmx hM
  refine (ref36_May _ _ _ _).mono ?_
  rintro e u0 ⟨rfl, hb⟩
  rw [ma]
  have HBu0 := Lib.hid (hb)
  clear hb
  go_wp2_with (go_at_call 52; refine (law36_lives _).mono ?_; rintro e w9 ⟨rfl, hb9⟩)
  go_ret
  exact ⟨rfl, bch HX.out.1 (bch HBu0.out hb9)⟩
theorem nomay1 (a1 a2 a3 b1 b2 b3 c1 c2 c3 : Int) (w : World) (p0 : -274877906944 < a1) (q0 : a1 < 274877906944) (p1 : -274877906944 < a2) (q1 : a2 < 274877906944) (p2 : -274877906944 < b1) (q2 : b1 < 274877906944) (p3 : -274877906944 < b2) (q3 : b2 < 274877906944) (p4 : -274877906944 < c1) (q4 : c1 < 274877906944) (p5 : -274877906944 < c2) (q5 : c2 < 274877906944) (ma : mayB a1 a2 a3 = true) (mb : mayB b1 b2 b3 = false) : Calls Try.prog 11 #[.agg #[.int .i64 a1, .int .i64 a2, .int .i64 a3], .agg #[.int .i64 b1, .int .i64 b2, .int .i64 b3], .agg #[.int .i64 c1, .int .i64 c2, .int .i64 c3]] w fun e w' => e = .returned (.bool true) ∧ Below w.heap.size w w' := by
  have hmx := run_max12 Try.prog
  have hM : maxl a1 [-a1, a2, -a2, b1, -b1, b2, -b2, c1, -c1, c2, -c2] < 274877906944 := by
    rw [maxl_lt]
    simp only [List.mem_cons, forall_eq_or_imp, List.not_mem_nil, false_implies, implies_true, and_true]
    omega
  go_enter Try.func11, Try.ntmps11
  go_wp2_with fail
  have hv0 := heap_two w (Obj.cells #[Value.int IntKind.i64 a1, Value.int IntKind.i64 a2, Value.int IntKind.i64 a3] 33) (Obj.cells #[Value.int IntKind.i64 b1, Value.int IntKind.i64 b2, Value.int IntKind.i64 b3] 33) (Obj.cells #[Value.int IntKind.i64 c1, Value.int IntKind.i64 c2, Value.int IntKind.i64 c3] 33)
  generalize ((w.alloc (Obj.cells #[Value.int IntKind.i64 a1, Value.int IntKind.i64 a2, Value.int IntKind.i64 a3] 33)).alloc (Obj.cells #[Value.int IntKind.i64 b1, Value.int IntKind.i64 b2, Value.int IntKind.i64 b3] 33)).alloc (Obj.cells #[Value.int IntKind.i64 c1, Value.int IntKind.i64 c2, Value.int IntKind.i64 c3] 33) = W1 at *
  obtain ⟨hz, hbw, hx0, hx1, hx2⟩ := hv0
  have HX := Lib.hid (⟨hbw, hz⟩ : Below w.heap.size w W1 ∧ W1.heap.size = w.heap.size + 1 + 1 + 1)
  have HX0 := Lib.hid hx0
  have HX1 := Lib.hid hx1
  have HX2 := Lib.hid hx2
  have hlt0 : w.heap.size < W1.heap.size := by omega
  have hlt1 : w.heap.size + 1 < W1.heap.size := by omega
  have hlt2 : w.heap.size + 1 + 1 < W1.heap.size := by omega
  clear hz hbw hx0 hx1 hx2 hmx hM
  refine (ref36_May _ _ _ _).mono ?_
  rintro e u0 ⟨rfl, hb⟩
  rw [ma]
  have HBu0 := Lib.hid (hb)
  clear hb
  have y := (HBu0.out.block _ hlt1).trans HX1.out
  have x0 := (cell_of_blk y 0).1
  have x1 := (cell_of_blk y 1).1
  have x2 := (cell_of_blk y 2).1
  simp only [List.getElem?_toArray, List.getElem?_cons_zero, List.getElem?_cons_succ] at x0 x1 x2
  clear y
  go_wp2_with fail
  clear x0 x1 x2
  refine (ref36_May _ _ _ _).mono ?_
  rintro e u1 ⟨rfl, hb⟩
  rw [mb]
  have HBu1 := Lib.hid (bch HBu0.out hb)
  clear hb
  go_wp2_with (go_at_call 52; refine (law36_lives _).mono ?_; rintro e w9 ⟨rfl, hb9⟩)
  go_ret
  exact ⟨rfl, bch HX.out.1 (bch HBu1.out hb9)⟩
theorem nomay2 (a1 a2 a3 b1 b2 b3 c1 c2 c3 : Int) (w : World) (p0 : -274877906944 < a1) (q0 : a1 < 274877906944) (p1 : -274877906944 < a2) (q1 : a2 < 274877906944) (p2 : -274877906944 < b1) (q2 : b1 < 274877906944) (p3 : -274877906944 < b2) (q3 : b2 < 274877906944) (p4 : -274877906944 < c1) (q4 : c1 < 274877906944) (p5 : -274877906944 < c2) (q5 : c2 < 274877906944) (ma : mayB a1 a2 a3 = true) (mb : mayB b1 b2 b3 = true) (mc : mayB c1 c2 c3 = false) : Calls Try.prog 11 #[.agg #[.int .i64 a1, .int .i64 a2, .int .i64 a3], .agg #[.int .i64 b1, .int .i64 b2, .int .i64 b3], .agg #[.int .i64 c1, .int .i64 c2, .int .i64 c3]] w fun e w' => e = .returned (.bool true) ∧ Below w.heap.size w w' := by
  have hmx := run_max12 Try.prog
  have hM : maxl a1 [-a1, a2, -a2, b1, -b1, b2, -b2, c1, -c1, c2, -c2] < 274877906944 := by
    rw [maxl_lt]
    simp only [List.mem_cons, forall_eq_or_imp, List.not_mem_nil, false_implies, implies_true, and_true]
    omega
  go_enter Try.func11, Try.ntmps11
  go_wp2_with fail
  have hv0 := heap_two w (Obj.cells #[Value.int IntKind.i64 a1, Value.int IntKind.i64 a2, Value.int IntKind.i64 a3] 33) (Obj.cells #[Value.int IntKind.i64 b1, Value.int IntKind.i64 b2, Value.int IntKind.i64 b3] 33) (Obj.cells #[Value.int IntKind.i64 c1, Value.int IntKind.i64 c2, Value.int IntKind.i64 c3] 33)
  generalize ((w.alloc (Obj.cells #[Value.int IntKind.i64 a1, Value.int IntKind.i64 a2, Value.int IntKind.i64 a3] 33)).alloc (Obj.cells #[Value.int IntKind.i64 b1, Value.int IntKind.i64 b2, Value.int IntKind.i64 b3] 33)).alloc (Obj.cells #[Value.int IntKind.i64 c1, Value.int IntKind.i64 c2, Value.int IntKind.i64 c3] 33) = W1 at *
  obtain ⟨hz, hbw, hx0, hx1, hx2⟩ := hv0
  have HX := Lib.hid (⟨hbw, hz⟩ : Below w.heap.size w W1 ∧ W1.heap.size = w.heap.size + 1 + 1 + 1)
  have HX0 := Lib.hid hx0
  have HX1 := Lib.hid hx1
  have HX2 := Lib.hid hx2
  have hlt0 : w.heap.size < W1.heap.size := by omega
  have hlt1 : w.heap.size + 1 < W1.heap.size := by omega
  have hlt2 : w.heap.size + 1 + 1 < W1.heap.size := by omega
  clear hz hbw hx0 hx1 hx2 hmx hM
  refine (ref36_May _ _ _ _).mono ?_
  rintro e u0 ⟨rfl, hb⟩
  rw [ma]
  have HBu0 := Lib.hid (hb)
  clear hb
  have y := (HBu0.out.block _ hlt1).trans HX1.out
  have x0 := (cell_of_blk y 0).1
  have x1 := (cell_of_blk y 1).1
  have x2 := (cell_of_blk y 2).1
  simp only [List.getElem?_toArray, List.getElem?_cons_zero, List.getElem?_cons_succ] at x0 x1 x2
  clear y
  go_wp2_with fail
  clear x0 x1 x2
  refine (ref36_May _ _ _ _).mono ?_
  rintro e u1 ⟨rfl, hb⟩
  rw [mb]
  have HBu1 := Lib.hid (bch HBu0.out hb)
  clear hb
  have y := (HBu1.out.block _ hlt2).trans HX2.out
  have x0 := (cell_of_blk y 0).1
  have x1 := (cell_of_blk y 1).1
  have x2 := (cell_of_blk y 2).1
  simp only [List.getElem?_toArray, List.getElem?_cons_zero, List.getElem?_cons_succ] at x0 x1 x2
  clear y
  go_wp2_with fail
  clear x0 x1 x2
  refine (ref36_May _ _ _ _).mono ?_
  rintro e u2 ⟨rfl, hb⟩
  rw [mc]
  have HBu2 := Lib.hid (bch HBu1.out hb)
  clear hb
  go_wp2_with (go_at_call 52; refine (law36_lives _).mono ?_; rintro e w9 ⟨rfl, hb9⟩)
  go_ret
  exact ⟨rfl, bch HX.out.1 (bch HBu2.out hb9)⟩
set_option maxRecDepth 100000 in
set_option maxHeartbeats 4000000 in
theorem main (a1 a2 a3 b1 b2 b3 c1 c2 c3 : Int) (w : World) (p0 : -274877906944 < a1) (q0 : a1 < 274877906944) (p1 : -274877906944 < a2) (q1 : a2 < 274877906944) (p2 : -274877906944 < b1) (q2 : b1 < 274877906944) (p3 : -274877906944 < b2) (q3 : b2 < 274877906944) (p4 : -274877906944 < c1) (q4 : c1 < 274877906944) (p5 : -274877906944 < c2) (q5 : c2 < 274877906944) (ma : mayB a1 a2 a3 = true) (mb : mayB b1 b2 b3 = true) (mc : mayB c1 c2 c3 = true) : Calls Try.prog 11 #[.agg #[.int .i64 a1, .int .i64 a2, .int .i64 a3], .agg #[.int .i64 b1, .int .i64 b2, .int .i64 b3], .agg #[.int .i64 c1, .int .i64 c2, .int .i64 c3]] w fun e w' => e = .returned (.bool true) ∧ Below w.heap.size w w' := by
  obtain ⟨y1, y2, y3, z1, z2, z3, r1, r2, r3, s1, s2, s3, k1, k2, k3, k4, k5, k6, k7, k8⟩ := group_contracts a1 a2 a3 b1 b2 b3 c1 c2 c3 ma mb mc ⟨p0, q0⟩ ⟨p1, q1⟩ ⟨p2, q2⟩ ⟨p3, q3⟩ ⟨p4, q4⟩ ⟨p5, q5⟩
  unfold Tells w3 at k1 k2 k3 k4 k5 k6 k7 k8
  have T1 := Lib.hid k1
  have T2 := Lib.hid k2
  have T3 := Lib.hid k3
  have T4 := Lib.hid k4
  have T5 := Lib.hid k5
  have T6 := Lib.hid k6
  have B1 := Lib.hid k7
  have B2 := Lib.hid k8
  clear k1 k2 k3 k4 k5 k6 k7 k8
  have hmx := run_max12 Try.prog
  have hM : maxl a1 [-a1, a2, -a2, b1, -b1, b2, -b2, c1, -c1, c2, -c2] < 274877906944 := by
    rw [maxl_lt]
    simp only [List.mem_cons, forall_eq_or_imp, List.not_mem_nil, false_implies, implies_true, and_true]
    omega
  go_enter Try.func11, Try.ntmps11
  go_wp2_with fail
  have hv0 := heap_two w (Obj.cells #[Value.int IntKind.i64 a1, Value.int IntKind.i64 a2, Value.int IntKind.i64 a3] 33) (Obj.cells #[Value.int IntKind.i64 b1, Value.int IntKind.i64 b2, Value.int IntKind.i64 b3] 33) (Obj.cells #[Value.int IntKind.i64 c1, Value.int IntKind.i64 c2, Value.int IntKind.i64 c3] 33)
  generalize ((w.alloc (Obj.cells #[Value.int IntKind.i64 a1, Value.int IntKind.i64 a2, Value.int IntKind.i64 a3] 33)).alloc (Obj.cells #[Value.int IntKind.i64 b1, Value.int IntKind.i64 b2, Value.int IntKind.i64 b3] 33)).alloc (Obj.cells #[Value.int IntKind.i64 c1, Value.int IntKind.i64 c2, Value.int IntKind.i64 c3] 33) = W1 at *
  obtain ⟨hz, hbw, hx0, hx1, hx2⟩ := hv0
  have HX := Lib.hid (⟨hbw, hz⟩ : Below w.heap.size w W1 ∧ W1.heap.size = w.heap.size + 1 + 1 + 1)
  have HX0 := Lib.hid hx0
  have HX1 := Lib.hid hx1
  have HX2 := Lib.hid hx2
  have hlt0 : w.heap.size < W1.heap.size := by omega
  have hlt1 : w.heap.size + 1 < W1.heap.size := by omega
  have hlt2 : w.heap.size + 1 + 1 < W1.heap.size := by omega
  clear hz hbw hx0 hx1 hx2 hmx hM
  refine (ref36_May _ _ _ _).mono ?_
  rintro e u0 ⟨rfl, hb⟩
  rw [ma]
  have HBu0 := Lib.hid (hb)
  clear hb
  have y := (HBu0.out.block _ hlt1).trans HX1.out
  have x0 := (cell_of_blk y 0).1
  have x1 := (cell_of_blk y 1).1
  have x2 := (cell_of_blk y 2).1
  simp only [List.getElem?_toArray, List.getElem?_cons_zero, List.getElem?_cons_succ] at x0 x1 x2
  clear y
  go_wp2_with fail
  clear x0 x1 x2
  refine (ref36_May _ _ _ _).mono ?_
  rintro e u1 ⟨rfl, hb⟩
  rw [mb]
  have HBu1 := Lib.hid (bch HBu0.out hb)
  clear hb
  have y := (HBu1.out.block _ hlt2).trans HX2.out
  have x0 := (cell_of_blk y 0).1
  have x1 := (cell_of_blk y 1).1
  have x2 := (cell_of_blk y 2).1
  simp only [List.getElem?_toArray, List.getElem?_cons_zero, List.getElem?_cons_succ] at x0 x1 x2
  clear y
  go_wp2_with fail
  clear x0 x1 x2
  refine (ref36_May _ _ _ _).mono ?_
  rintro e u2 ⟨rfl, hb⟩
  rw [mc]
  have HBu2 := Lib.hid (bch HBu1.out hb)
  clear hb
  have y := (HBu2.out.block _ hlt0).trans HX0.out
  have x0 := (cell_of_blk y 0).1
  have x1 := (cell_of_blk y 1).1
  have x2 := (cell_of_blk y 2).1
  simp only [List.getElem?_toArray, List.getElem?_cons_zero, List.getElem?_cons_succ] at x0 x1 x2
  clear y
  have y := (HBu2.out.block _ hlt1).trans HX1.out
  have z0 := (cell_of_blk y 0).1
  have z1 := (cell_of_blk y 1).1
  have z2 := (cell_of_blk y 2).1
  simp only [List.getElem?_toArray, List.getElem?_cons_zero, List.getElem?_cons_succ] at z0 z1 z2
  clear y
  have y := (HBu2.out.block _ hlt2).trans HX2.out
  have v0 := (cell_of_blk y 0).1
  have v1 := (cell_of_blk y 1).1
  have v2 := (cell_of_blk y 2).1
  simp only [List.getElem?_toArray, List.getElem?_cons_zero, List.getElem?_cons_succ] at v0 v1 v2
  clear y
  have hS : ∀ w', Below W1.heap.size W1 w' → (w'.cell? ⟨w.heap.size, 0, none⟩ = some (.int .i64 a1) ∧ w'.cell? ⟨w.heap.size, 1, none⟩ = some (.int .i64 a2) ∧ w'.cell? ⟨w.heap.size, 2, none⟩ = some (.int .i64 a3) ∧ w'.cell? ⟨w.heap.size + 1, 0, none⟩ = some (.int .i64 b1) ∧ w'.cell? ⟨w.heap.size + 1, 1, none⟩ = some (.int .i64 b2) ∧ w'.cell? ⟨w.heap.size + 1, 2, none⟩ = some (.int .i64 b3) ∧ w'.cell? ⟨w.heap.size + 1 + 1, 0, none⟩ = some (.int .i64 c1) ∧ w'.cell? ⟨w.heap.size + 1 + 1, 1, none⟩ = some (.int .i64 c2) ∧ w'.cell? ⟨w.heap.size + 1 + 1, 2, none⟩ = some (.int .i64 c3) ∧ Below W1.heap.size W1 w') := by
    intro w' hb
    have y0 := (hb.block _ hlt0).trans HX0.out
    have y1 := (hb.block _ hlt1).trans HX1.out
    have y2 := (hb.block _ hlt2).trans HX2.out
    exact ⟨(cell_of_blk y0 0).1, (cell_of_blk y0 1).1, (cell_of_blk y0 2).1, (cell_of_blk y1 0).1, (cell_of_blk y1 1).1, (cell_of_blk y1 2).1, (cell_of_blk y2 0).1, (cell_of_blk y2 1).1, (cell_of_blk y2 2).1, hb⟩
  have HS := Lib.hid hS
  clear hS
  go_wp2_with fail
  have hU := HBu2.out
  have keep : ∀ a b : World, Below W1.heap.size W1 a → Below a.heap.size a b → Below W1.heap.size W1 b := fun a b h k => bch h k
  have KEEP := Lib.hid keep
  clear keep
  go_upto_region 5 with (fail)
  go_cut [9, 10, 11] (fun s9 s10 s11 wx => ∃ bx by_ bz : Nat, s9 = .pointer (some ⟨bx, 0, none⟩) ∧ s10 = .pointer (some ⟨by_, 0, none⟩) ∧ s11 = .pointer (some ⟨bz, 0, none⟩) ∧ wx.heap[bx]? = some (.cells #[.int .i64 a1, .int .i64 a2, .int .i64 a3] 30 (0, 0)) ∧ wx.heap[by_]? = some (.cells #[.int .i64 b1, .int .i64 b2, .int .i64 b3] 30 (0, 0)) ∧ wx.heap[bz]? = some (.cells #[.int .i64 c1, .int .i64 c2, .int .i64 c3] 30 (0, 0)) ∧ Below W1.heap.size W1 wx)
  case first =>
    refine region_inv (by kernel_rfl) (by kernel_rfl) (fun a0 L a w => ∃ (u93 u94 u95 u96 u97 u98 u9 u10 u11 : Value) (g9 g10 g11 : Nat) (p9_0 p9_1 p9_2 p10_0 p10_1 p10_2 p11_0 p11_1 p11_2 : Value), a = (((((((((a0.put (some 93) u93).put (some 94) u94).put (some 95) u95).put (some 96) u96).put (some 97) u97).put (some 98) u98).put (some 9) u9).put (some 10) u10).put (some 11) u11) ∧ Below W1.heap.size W1 w ∧ (Up L 0 → u93 = .agg #[.int .i64 a1, .int .i64 a2, .int .i64 a3]) ∧ (Up L 1 → u94 = .agg #[.int .i64 a1, .int .i64 a2, .int .i64 a3]) ∧ (Up L 2 → u95 = .agg #[.int .i64 b1, .int .i64 b2, .int .i64 b3]) ∧ (Up L 3 → u96 = .agg #[.int .i64 b1, .int .i64 b2, .int .i64 b3]) ∧ (Up L 4 → u97 = .agg #[.int .i64 c1, .int .i64 c2, .int .i64 c3]) ∧ (Up L 5 → u98 = .agg #[.int .i64 c1, .int .i64 c2, .int .i64 c3]) ∧ (Up L 6 → u9 = .pointer (some ⟨g9, 0, none⟩) ∧ W1.heap.size ≤ g9 ∧ w.heap[g9]? = some (.cells #[p9_0, p9_1, p9_2] 30 (0, 0))) ∧ (Up L 7 → u10 = .pointer (some ⟨g10, 0, none⟩) ∧ W1.heap.size ≤ g10 ∧ w.heap[g10]? = some (.cells #[p10_0, p10_1, p10_2] 30 (0, 0))) ∧ (Up L 8 → u11 = .pointer (some ⟨g11, 0, none⟩) ∧ W1.heap.size ≤ g11 ∧ w.heap[g11]? = some (.cells #[p11_0, p11_1, p11_2] 30 (0, 0))) ∧ (Up L 9 → Up L 6 ∧ p9_0 = .int .i64 a1 ∧ p9_1 = .int .i64 a2 ∧ p9_2 = .int .i64 a3) ∧ (Up L 10 → Up L 7 ∧ p10_0 = .int .i64 b1 ∧ p10_1 = .int .i64 b2 ∧ p10_2 = .int .i64 b3) ∧ (Up L 11 → Up L 8 ∧ p11_0 = .int .i64 c1 ∧ p11_1 = .int .i64 c2 ∧ p11_2 = .int .i64 c3) ∧ (Up L 6 → Up L 7 → g9 ≠ g10) ∧ (Up L 6 → Up L 8 → g9 ≠ g11) ∧ (Up L 7 → Up L 8 → g10 ≠ g11)) ?h0 ?hs ?hend
    case h0 =>
      refine ⟨undef, undef, undef, undef, undef, undef, undef, undef, undef, 0, 0, 0, undef, undef, undef, undef, undef, undef, undef, undef, undef, ?ha, Below.drew (by assumption), fun h => absurd h (by unfold Up; decide), fun h => absurd h (by unfold Up; decide), fun h => absurd h (by unfold Up; decide), fun h => absurd h (by unfold Up; decide), fun h => absurd h (by unfold Up; decide), fun h => absurd h (by unfold Up; decide), fun h => absurd h (by unfold Up; decide), fun h => absurd h (by unfold Up; decide), fun h => absurd h (by unfold Up; decide), fun h => absurd h (by unfold Up; decide), fun h => absurd h (by unfold Up; decide), fun h => absurd h (by unfold Up; decide), fun h => absurd h (by unfold Up; decide), fun h => absurd h (by unfold Up; decide), fun h => absurd h (by unfold Up; decide)⟩
      case ha => simp only [Act.put, List.setIfInBounds_toArray, List.set_cons_zero, List.set_cons_succ]
    case hs =>
      refine Steps.cons_ ?_ (Steps.cons_ ?_ (Steps.cons_ ?_ (Steps.cons_ ?_ (Steps.cons_ ?_ (Steps.cons_ ?_ (Steps.cons_ ?_ (Steps.cons_ ?_ (Steps.cons_ ?_ (Steps.cons_ ?_ (Steps.cons_ ?_ (Steps.cons_ ?_ (Steps.nil_))))))))))))
      · rintro L a w ⟨u93, u94, u95, u96, u97, u98, u9, u10, u11, g9, g10, g11, p9_0, p9_1, p9_2, p10_0, p10_1, p10_2, p11_0, p11_1, p11_2, rfl, hB, f0, f1, f2, f3, f4, f5, f6, f7, f8, f9, f10, f11, d0_1, d0_2, d1_2⟩ hnu hd K' hK
        clear hd
        clear f0
        have Hf1 := Lib.hid f1
        clear f1
        have Hf2 := Lib.hid f2
        clear f2
        have Hf3 := Lib.hid f3
        clear f3
        have Hf4 := Lib.hid f4
        clear f4
        have Hf5 := Lib.hid f5
        clear f5
        have Hf6 := Lib.hid f6
        clear f6
        have Hf7 := Lib.hid f7
        clear f7
        have Hf8 := Lib.hid f8
        clear f8
        have Hf9 := Lib.hid f9
        clear f9
        have Hf10 := Lib.hid f10
        clear f10
        have Hf11 := Lib.hid f11
        clear f11
        have Hd0_1 := Lib.hid d0_1
        clear d0_1
        have Hd0_2 := Lib.hid d0_2
        clear d0_2
        have Hd1_2 := Lib.hid d1_2
        clear d1_2
        have HB := Lib.hid hB
        clear hB
        try clear hd
        simp only [Act.put, List.setIfInBounds_toArray, List.set_cons_zero, List.set_cons_succ]
        have yy := HS.out w HB.out
        have x0 := yy.1
        have x1 := yy.2.1
        have x2 := yy.2.2.1
        clear yy
        go_simp
        have f1 := Hf1.out
        have f2 := Hf2.out
        have f3 := Hf3.out
        have f4 := Hf4.out
        have f5 := Hf5.out
        have f6 := Hf6.out
        have f7 := Hf7.out
        have f8 := Hf8.out
        have f9 := Hf9.out
        have f10 := Hf10.out
        have f11 := Hf11.out
        have d0_1 := Hd0_1.out
        have d0_2 := Hd0_2.out
        have d1_2 := Hd1_2.out
        refine hK.out _ _ ⟨(.agg #[.int .i64 a1, .int .i64 a2, .int .i64 a3]), u94, u95, u96, u97, u98, u9, u10, u11, g9, g10, g11, p9_0, p9_1, p9_2, p10_0, p10_1, p10_2, p11_0, p11_1, p11_2, ?ha, HB.out, fun _ => rfl, fun h => f1 (up_set (by decide) h), fun h => f2 (up_set (by decide) h), fun h => f3 (up_set (by decide) h), fun h => f4 (up_set (by decide) h), fun h => f5 (up_set (by decide) h), fun h => f6 (up_set (by decide) h), fun h => f7 (up_set (by decide) h), fun h => f8 (up_set (by decide) h), fun h => ⟨up_keep (f9 (up_set (by decide) h)).1, (f9 (up_set (by decide) h)).2⟩, fun h => ⟨up_keep (f10 (up_set (by decide) h)).1, (f10 (up_set (by decide) h)).2⟩, fun h => ⟨up_keep (f11 (up_set (by decide) h)).1, (f11 (up_set (by decide) h)).2⟩, fun h1 h2 => d0_1 (up_set (by decide) h1) (up_set (by decide) h2), fun h1 h2 => d0_2 (up_set (by decide) h1) (up_set (by decide) h2), fun h1 h2 => d1_2 (up_set (by decide) h1) (up_set (by decide) h2)⟩
        case ha => simp only [Act.put, List.setIfInBounds_toArray, List.set_cons_zero, List.set_cons_succ]
      · rintro L a w ⟨u93, u94, u95, u96, u97, u98, u9, u10, u11, g9, g10, g11, p9_0, p9_1, p9_2, p10_0, p10_1, p10_2, p11_0, p11_1, p11_2, rfl, hB, f0, f1, f2, f3, f4, f5, f6, f7, f8, f9, f10, f11, d0_1, d0_2, d1_2⟩ hnu hd K' hK
        simp [Region.binds] at hd
        have e93 := f0 (by simp [hd])
        subst e93
        have Hf0 := Lib.hid f0
        clear f0
        clear f1
        have Hf2 := Lib.hid f2
        clear f2
        have Hf3 := Lib.hid f3
        clear f3
        have Hf4 := Lib.hid f4
        clear f4
        have Hf5 := Lib.hid f5
        clear f5
        have Hf6 := Lib.hid f6
        clear f6
        have Hf7 := Lib.hid f7
        clear f7
        have Hf8 := Lib.hid f8
        clear f8
        have Hf9 := Lib.hid f9
        clear f9
        have Hf10 := Lib.hid f10
        clear f10
        have Hf11 := Lib.hid f11
        clear f11
        have Hd0_1 := Lib.hid d0_1
        clear d0_1
        have Hd0_2 := Lib.hid d0_2
        clear d0_2
        have Hd1_2 := Lib.hid d1_2
        clear d1_2
        have HB := Lib.hid hB
        clear hB
        try clear hd
        simp only [Act.put, List.setIfInBounds_toArray, List.set_cons_zero, List.set_cons_succ]
        go_simp
        refine (law36_own _ _ _ _).mono ?_
        rintro e w' ⟨rfl, hb⟩
        have f0 := Hf0.out
        have f2 := Hf2.out
        have f3 := Hf3.out
        have f4 := Hf4.out
        have f5 := Hf5.out
        have f6 := Hf6.out
        have f7 := Hf7.out
        have f8 := Hf8.out
        have f9 := Hf9.out
        have f10 := Hf10.out
        have f11 := Hf11.out
        have d0_1 := Hd0_1.out
        have d0_2 := Hd0_2.out
        have d1_2 := Hd1_2.out
        refine hK.out _ _ ⟨(.agg #[.int .i64 a1, .int .i64 a2, .int .i64 a3]), (.agg #[.int .i64 a1, .int .i64 a2, .int .i64 a3]), u95, u96, u97, u98, u9, u10, u11, g9, g10, g11, p9_0, p9_1, p9_2, p10_0, p10_1, p10_2, p11_0, p11_1, p11_2, ?ha, bch HB.out hb, fun _ => rfl, fun _ => rfl, fun h => f2 (up_set (by decide) h), fun h => f3 (up_set (by decide) h), fun h => f4 (up_set (by decide) h), fun h => f5 (up_set (by decide) h), fun h => let ⟨x1, x2, x3⟩ := f6 (up_set (by decide) h); ⟨x1, x2, (hb.block _ (lt_of_blk x3)).trans x3⟩, fun h => let ⟨x1, x2, x3⟩ := f7 (up_set (by decide) h); ⟨x1, x2, (hb.block _ (lt_of_blk x3)).trans x3⟩, fun h => let ⟨x1, x2, x3⟩ := f8 (up_set (by decide) h); ⟨x1, x2, (hb.block _ (lt_of_blk x3)).trans x3⟩, fun h => ⟨up_keep (f9 (up_set (by decide) h)).1, (f9 (up_set (by decide) h)).2⟩, fun h => ⟨up_keep (f10 (up_set (by decide) h)).1, (f10 (up_set (by decide) h)).2⟩, fun h => ⟨up_keep (f11 (up_set (by decide) h)).1, (f11 (up_set (by decide) h)).2⟩, fun h1 h2 => d0_1 (up_set (by decide) h1) (up_set (by decide) h2), fun h1 h2 => d0_2 (up_set (by decide) h1) (up_set (by decide) h2), fun h1 h2 => d1_2 (up_set (by decide) h1) (up_set (by decide) h2)⟩
        case ha => simp only [Act.put, List.setIfInBounds_toArray, List.set_cons_zero, List.set_cons_succ]
      · rintro L a w ⟨u93, u94, u95, u96, u97, u98, u9, u10, u11, g9, g10, g11, p9_0, p9_1, p9_2, p10_0, p10_1, p10_2, p11_0, p11_1, p11_2, rfl, hB, f0, f1, f2, f3, f4, f5, f6, f7, f8, f9, f10, f11, d0_1, d0_2, d1_2⟩ hnu hd K' hK
        clear hd
        have Hf0 := Lib.hid f0
        clear f0
        have Hf1 := Lib.hid f1
        clear f1
        clear f2
        have Hf3 := Lib.hid f3
        clear f3
        have Hf4 := Lib.hid f4
        clear f4
        have Hf5 := Lib.hid f5
        clear f5
        have Hf6 := Lib.hid f6
        clear f6
        have Hf7 := Lib.hid f7
        clear f7
        have Hf8 := Lib.hid f8
        clear f8
        have Hf9 := Lib.hid f9
        clear f9
        have Hf10 := Lib.hid f10
        clear f10
        have Hf11 := Lib.hid f11
        clear f11
        have Hd0_1 := Lib.hid d0_1
        clear d0_1
        have Hd0_2 := Lib.hid d0_2
        clear d0_2
        have Hd1_2 := Lib.hid d1_2
        clear d1_2
        have HB := Lib.hid hB
        clear hB
        try clear hd
        simp only [Act.put, List.setIfInBounds_toArray, List.set_cons_zero, List.set_cons_succ]
        have yy := HS.out w HB.out
        have x3 := yy.2.2.2.1
        have x4 := yy.2.2.2.2.1
        have x5 := yy.2.2.2.2.2.1
        clear yy
        go_simp
        have f0 := Hf0.out
        have f1 := Hf1.out
        have f3 := Hf3.out
        have f4 := Hf4.out
        have f5 := Hf5.out
        have f6 := Hf6.out
        have f7 := Hf7.out
        have f8 := Hf8.out
        have f9 := Hf9.out
        have f10 := Hf10.out
        have f11 := Hf11.out
        have d0_1 := Hd0_1.out
        have d0_2 := Hd0_2.out
        have d1_2 := Hd1_2.out
        refine hK.out _ _ ⟨u93, u94, (.agg #[.int .i64 b1, .int .i64 b2, .int .i64 b3]), u96, u97, u98, u9, u10, u11, g9, g10, g11, p9_0, p9_1, p9_2, p10_0, p10_1, p10_2, p11_0, p11_1, p11_2, ?ha, HB.out, fun h => f0 (up_set (by decide) h), fun h => f1 (up_set (by decide) h), fun _ => rfl, fun h => f3 (up_set (by decide) h), fun h => f4 (up_set (by decide) h), fun h => f5 (up_set (by decide) h), fun h => f6 (up_set (by decide) h), fun h => f7 (up_set (by decide) h), fun h => f8 (up_set (by decide) h), fun h => ⟨up_keep (f9 (up_set (by decide) h)).1, (f9 (up_set (by decide) h)).2⟩, fun h => ⟨up_keep (f10 (up_set (by decide) h)).1, (f10 (up_set (by decide) h)).2⟩, fun h => ⟨up_keep (f11 (up_set (by decide) h)).1, (f11 (up_set (by decide) h)).2⟩, fun h1 h2 => d0_1 (up_set (by decide) h1) (up_set (by decide) h2), fun h1 h2 => d0_2 (up_set (by decide) h1) (up_set (by decide) h2), fun h1 h2 => d1_2 (up_set (by decide) h1) (up_set (by decide) h2)⟩
        case ha => simp only [Act.put, List.setIfInBounds_toArray, List.set_cons_zero, List.set_cons_succ]
      · rintro L a w ⟨u93, u94, u95, u96, u97, u98, u9, u10, u11, g9, g10, g11, p9_0, p9_1, p9_2, p10_0, p10_1, p10_2, p11_0, p11_1, p11_2, rfl, hB, f0, f1, f2, f3, f4, f5, f6, f7, f8, f9, f10, f11, d0_1, d0_2, d1_2⟩ hnu hd K' hK
        simp [Region.binds] at hd
        have e95 := f2 (by simp [hd])
        subst e95
        have Hf0 := Lib.hid f0
        clear f0
        have Hf1 := Lib.hid f1
        clear f1
        have Hf2 := Lib.hid f2
        clear f2
        clear f3
        have Hf4 := Lib.hid f4
        clear f4
        have Hf5 := Lib.hid f5
        clear f5
        have Hf6 := Lib.hid f6
        clear f6
        have Hf7 := Lib.hid f7
        clear f7
        have Hf8 := Lib.hid f8
        clear f8
        have Hf9 := Lib.hid f9
        clear f9
        have Hf10 := Lib.hid f10
        clear f10
        have Hf11 := Lib.hid f11
        clear f11
        have Hd0_1 := Lib.hid d0_1
        clear d0_1
        have Hd0_2 := Lib.hid d0_2
        clear d0_2
        have Hd1_2 := Lib.hid d1_2
        clear d1_2
        have HB := Lib.hid hB
        clear hB
        try clear hd
        simp only [Act.put, List.setIfInBounds_toArray, List.set_cons_zero, List.set_cons_succ]
        go_simp
        refine (law36_own _ _ _ _).mono ?_
        rintro e w' ⟨rfl, hb⟩
        have f0 := Hf0.out
        have f1 := Hf1.out
        have f2 := Hf2.out
        have f4 := Hf4.out
        have f5 := Hf5.out
        have f6 := Hf6.out
        have f7 := Hf7.out
        have f8 := Hf8.out
        have f9 := Hf9.out
        have f10 := Hf10.out
        have f11 := Hf11.out
        have d0_1 := Hd0_1.out
        have d0_2 := Hd0_2.out
        have d1_2 := Hd1_2.out
        refine hK.out _ _ ⟨u93, u94, (.agg #[.int .i64 b1, .int .i64 b2, .int .i64 b3]), (.agg #[.int .i64 b1, .int .i64 b2, .int .i64 b3]), u97, u98, u9, u10, u11, g9, g10, g11, p9_0, p9_1, p9_2, p10_0, p10_1, p10_2, p11_0, p11_1, p11_2, ?ha, bch HB.out hb, fun h => f0 (up_set (by decide) h), fun h => f1 (up_set (by decide) h), fun _ => rfl, fun _ => rfl, fun h => f4 (up_set (by decide) h), fun h => f5 (up_set (by decide) h), fun h => let ⟨x1, x2, x3⟩ := f6 (up_set (by decide) h); ⟨x1, x2, (hb.block _ (lt_of_blk x3)).trans x3⟩, fun h => let ⟨x1, x2, x3⟩ := f7 (up_set (by decide) h); ⟨x1, x2, (hb.block _ (lt_of_blk x3)).trans x3⟩, fun h => let ⟨x1, x2, x3⟩ := f8 (up_set (by decide) h); ⟨x1, x2, (hb.block _ (lt_of_blk x3)).trans x3⟩, fun h => ⟨up_keep (f9 (up_set (by decide) h)).1, (f9 (up_set (by decide) h)).2⟩, fun h => ⟨up_keep (f10 (up_set (by decide) h)).1, (f10 (up_set (by decide) h)).2⟩, fun h => ⟨up_keep (f11 (up_set (by decide) h)).1, (f11 (up_set (by decide) h)).2⟩, fun h1 h2 => d0_1 (up_set (by decide) h1) (up_set (by decide) h2), fun h1 h2 => d0_2 (up_set (by decide) h1) (up_set (by decide) h2), fun h1 h2 => d1_2 (up_set (by decide) h1) (up_set (by decide) h2)⟩
        case ha => simp only [Act.put, List.setIfInBounds_toArray, List.set_cons_zero, List.set_cons_succ]
      · rintro L a w ⟨u93, u94, u95, u96, u97, u98, u9, u10, u11, g9, g10, g11, p9_0, p9_1, p9_2, p10_0, p10_1, p10_2, p11_0, p11_1, p11_2, rfl, hB, f0, f1, f2, f3, f4, f5, f6, f7, f8, f9, f10, f11, d0_1, d0_2, d1_2⟩ hnu hd K' hK
        clear hd
        have Hf0 := Lib.hid f0
        clear f0
        have Hf1 := Lib.hid f1
        clear f1
        have Hf2 := Lib.hid f2
        clear f2
        have Hf3 := Lib.hid f3
        clear f3
        clear f4
        have Hf5 := Lib.hid f5
        clear f5
        have Hf6 := Lib.hid f6
        clear f6
        have Hf7 := Lib.hid f7
        clear f7
        have Hf8 := Lib.hid f8
        clear f8
        have Hf9 := Lib.hid f9
        clear f9
        have Hf10 := Lib.hid f10
        clear f10
        have Hf11 := Lib.hid f11
        clear f11
        have Hd0_1 := Lib.hid d0_1
        clear d0_1
        have Hd0_2 := Lib.hid d0_2
        clear d0_2
        have Hd1_2 := Lib.hid d1_2
        clear d1_2
        have HB := Lib.hid hB
        clear hB
        try clear hd
        simp only [Act.put, List.setIfInBounds_toArray, List.set_cons_zero, List.set_cons_succ]
        have yy := HS.out w HB.out
        have x6 := yy.2.2.2.2.2.2.1
        have x7 := yy.2.2.2.2.2.2.2.1
        have x8 := yy.2.2.2.2.2.2.2.2.1
        clear yy
        go_simp
        have f0 := Hf0.out
        have f1 := Hf1.out
        have f2 := Hf2.out
        have f3 := Hf3.out
        have f5 := Hf5.out
        have f6 := Hf6.out
        have f7 := Hf7.out
        have f8 := Hf8.out
        have f9 := Hf9.out
        have f10 := Hf10.out
        have f11 := Hf11.out
        have d0_1 := Hd0_1.out
        have d0_2 := Hd0_2.out
        have d1_2 := Hd1_2.out
        refine hK.out _ _ ⟨u93, u94, u95, u96, (.agg #[.int .i64 c1, .int .i64 c2, .int .i64 c3]), u98, u9, u10, u11, g9, g10, g11, p9_0, p9_1, p9_2, p10_0, p10_1, p10_2, p11_0, p11_1, p11_2, ?ha, HB.out, fun h => f0 (up_set (by decide) h), fun h => f1 (up_set (by decide) h), fun h => f2 (up_set (by decide) h), fun h => f3 (up_set (by decide) h), fun _ => rfl, fun h => f5 (up_set (by decide) h), fun h => f6 (up_set (by decide) h), fun h => f7 (up_set (by decide) h), fun h => f8 (up_set (by decide) h), fun h => ⟨up_keep (f9 (up_set (by decide) h)).1, (f9 (up_set (by decide) h)).2⟩, fun h => ⟨up_keep (f10 (up_set (by decide) h)).1, (f10 (up_set (by decide) h)).2⟩, fun h => ⟨up_keep (f11 (up_set (by decide) h)).1, (f11 (up_set (by decide) h)).2⟩, fun h1 h2 => d0_1 (up_set (by decide) h1) (up_set (by decide) h2), fun h1 h2 => d0_2 (up_set (by decide) h1) (up_set (by decide) h2), fun h1 h2 => d1_2 (up_set (by decide) h1) (up_set (by decide) h2)⟩
        case ha => simp only [Act.put, List.setIfInBounds_toArray, List.set_cons_zero, List.set_cons_succ]
      · rintro L a w ⟨u93, u94, u95, u96, u97, u98, u9, u10, u11, g9, g10, g11, p9_0, p9_1, p9_2, p10_0, p10_1, p10_2, p11_0, p11_1, p11_2, rfl, hB, f0, f1, f2, f3, f4, f5, f6, f7, f8, f9, f10, f11, d0_1, d0_2, d1_2⟩ hnu hd K' hK
        simp [Region.binds] at hd
        have e97 := f4 (by simp [hd])
        subst e97
        have Hf0 := Lib.hid f0
        clear f0
        have Hf1 := Lib.hid f1
        clear f1
        have Hf2 := Lib.hid f2
        clear f2
        have Hf3 := Lib.hid f3
        clear f3
        have Hf4 := Lib.hid f4
        clear f4
        clear f5
        have Hf6 := Lib.hid f6
        clear f6
        have Hf7 := Lib.hid f7
        clear f7
        have Hf8 := Lib.hid f8
        clear f8
        have Hf9 := Lib.hid f9
        clear f9
        have Hf10 := Lib.hid f10
        clear f10
        have Hf11 := Lib.hid f11
        clear f11
        have Hd0_1 := Lib.hid d0_1
        clear d0_1
        have Hd0_2 := Lib.hid d0_2
        clear d0_2
        have Hd1_2 := Lib.hid d1_2
        clear d1_2
        have HB := Lib.hid hB
        clear hB
        try clear hd
        simp only [Act.put, List.setIfInBounds_toArray, List.set_cons_zero, List.set_cons_succ]
        go_simp
        refine (law36_own _ _ _ _).mono ?_
        rintro e w' ⟨rfl, hb⟩
        have f0 := Hf0.out
        have f1 := Hf1.out
        have f2 := Hf2.out
        have f3 := Hf3.out
        have f4 := Hf4.out
        have f6 := Hf6.out
        have f7 := Hf7.out
        have f8 := Hf8.out
        have f9 := Hf9.out
        have f10 := Hf10.out
        have f11 := Hf11.out
        have d0_1 := Hd0_1.out
        have d0_2 := Hd0_2.out
        have d1_2 := Hd1_2.out
        refine hK.out _ _ ⟨u93, u94, u95, u96, (.agg #[.int .i64 c1, .int .i64 c2, .int .i64 c3]), (.agg #[.int .i64 c1, .int .i64 c2, .int .i64 c3]), u9, u10, u11, g9, g10, g11, p9_0, p9_1, p9_2, p10_0, p10_1, p10_2, p11_0, p11_1, p11_2, ?ha, bch HB.out hb, fun h => f0 (up_set (by decide) h), fun h => f1 (up_set (by decide) h), fun h => f2 (up_set (by decide) h), fun h => f3 (up_set (by decide) h), fun _ => rfl, fun _ => rfl, fun h => let ⟨x1, x2, x3⟩ := f6 (up_set (by decide) h); ⟨x1, x2, (hb.block _ (lt_of_blk x3)).trans x3⟩, fun h => let ⟨x1, x2, x3⟩ := f7 (up_set (by decide) h); ⟨x1, x2, (hb.block _ (lt_of_blk x3)).trans x3⟩, fun h => let ⟨x1, x2, x3⟩ := f8 (up_set (by decide) h); ⟨x1, x2, (hb.block _ (lt_of_blk x3)).trans x3⟩, fun h => ⟨up_keep (f9 (up_set (by decide) h)).1, (f9 (up_set (by decide) h)).2⟩, fun h => ⟨up_keep (f10 (up_set (by decide) h)).1, (f10 (up_set (by decide) h)).2⟩, fun h => ⟨up_keep (f11 (up_set (by decide) h)).1, (f11 (up_set (by decide) h)).2⟩, fun h1 h2 => d0_1 (up_set (by decide) h1) (up_set (by decide) h2), fun h1 h2 => d0_2 (up_set (by decide) h1) (up_set (by decide) h2), fun h1 h2 => d1_2 (up_set (by decide) h1) (up_set (by decide) h2)⟩
        case ha => simp only [Act.put, List.setIfInBounds_toArray, List.set_cons_zero, List.set_cons_succ]
      · rintro L a w ⟨u93, u94, u95, u96, u97, u98, u9, u10, u11, g9, g10, g11, p9_0, p9_1, p9_2, p10_0, p10_1, p10_2, p11_0, p11_1, p11_2, rfl, hB, f0, f1, f2, f3, f4, f5, f6, f7, f8, f9, f10, f11, d0_1, d0_2, d1_2⟩ hnu hd K' hK
        clear hd
        have Hf0 := Lib.hid f0
        clear f0
        have Hf1 := Lib.hid f1
        clear f1
        have Hf2 := Lib.hid f2
        clear f2
        have Hf3 := Lib.hid f3
        clear f3
        have Hf4 := Lib.hid f4
        clear f4
        have Hf5 := Lib.hid f5
        clear f5
        clear f6
        have Hf7 := Lib.hid f7
        clear f7
        have Hf8 := Lib.hid f8
        clear f8
        have Hf9 := Lib.hid f9
        clear f9
        have Hf10 := Lib.hid f10
        clear f10
        have Hf11 := Lib.hid f11
        clear f11
        have Hd0_1 := Lib.hid d0_1
        clear d0_1
        have Hd0_2 := Lib.hid d0_2
        clear d0_2
        have Hd1_2 := Lib.hid d1_2
        clear d1_2
        have HB := Lib.hid hB
        clear hB
        try clear hd
        simp only [Act.put, List.setIfInBounds_toArray, List.set_cons_zero, List.set_cons_succ]
        go_simp
        have f0 := Hf0.out
        have f1 := Hf1.out
        have f2 := Hf2.out
        have f3 := Hf3.out
        have f4 := Hf4.out
        have f5 := Hf5.out
        have f7 := Hf7.out
        have f8 := Hf8.out
        have f9 := Hf9.out
        have f10 := Hf10.out
        have f11 := Hf11.out
        have d0_1 := Hd0_1.out
        have d0_2 := Hd0_2.out
        have d1_2 := Hd1_2.out
        refine hK.out _ _ ⟨u93, u94, u95, u96, u97, u98, (.pointer (some ⟨w.heap.size, 0, none⟩)), u10, u11, w.heap.size, g10, g11, (.int .i64 0), (.int .i64 0), (.int .i64 0), p10_0, p10_1, p10_2, p11_0, p11_1, p11_2, ?ha, bal HB.out (.cells #[.int .i64 0, .int .i64 0, .int .i64 0] 30), fun h => f0 (up_set (by decide) h), fun h => f1 (up_set (by decide) h), fun h => f2 (up_set (by decide) h), fun h => f3 (up_set (by decide) h), fun h => f4 (up_set (by decide) h), fun h => f5 (up_set (by decide) h), fun _ => ⟨rfl, HB.out.size, heap_alloc_new w (.cells #[.int .i64 0, .int .i64 0, .int .i64 0] 30)⟩, fun h => let ⟨x1, x2, x3⟩ := f7 (up_set (by decide) h); ⟨x1, x2, (Below.heap_alloc w (.cells #[.int .i64 0, .int .i64 0, .int .i64 0] 30) _ (lt_of_blk x3)).trans x3⟩, fun h => let ⟨x1, x2, x3⟩ := f8 (up_set (by decide) h); ⟨x1, x2, (Below.heap_alloc w (.cells #[.int .i64 0, .int .i64 0, .int .i64 0] 30) _ (lt_of_blk x3)).trans x3⟩, fun h => absurd (f9 (up_set (by decide) h)).1 hnu, fun h => ⟨up_keep (f10 (up_set (by decide) h)).1, (f10 (up_set (by decide) h)).2⟩, fun h => ⟨up_keep (f11 (up_set (by decide) h)).1, (f11 (up_set (by decide) h)).2⟩, fun _ h => by have := lt_of_blk (f7 (up_set (by decide) h)).2.2; omega, fun _ h => by have := lt_of_blk (f8 (up_set (by decide) h)).2.2; omega, fun h1 h2 => d1_2 (up_set (by decide) h1) (up_set (by decide) h2)⟩
        case ha => simp only [Act.put, List.setIfInBounds_toArray, List.set_cons_zero, List.set_cons_succ]
      · rintro L a w ⟨u93, u94, u95, u96, u97, u98, u9, u10, u11, g9, g10, g11, p9_0, p9_1, p9_2, p10_0, p10_1, p10_2, p11_0, p11_1, p11_2, rfl, hB, f0, f1, f2, f3, f4, f5, f6, f7, f8, f9, f10, f11, d0_1, d0_2, d1_2⟩ hnu hd K' hK
        clear hd
        have Hf0 := Lib.hid f0
        clear f0
        have Hf1 := Lib.hid f1
        clear f1
        have Hf2 := Lib.hid f2
        clear f2
        have Hf3 := Lib.hid f3
        clear f3
        have Hf4 := Lib.hid f4
        clear f4
        have Hf5 := Lib.hid f5
        clear f5
        have Hf6 := Lib.hid f6
        clear f6
        clear f7
        have Hf8 := Lib.hid f8
        clear f8
        have Hf9 := Lib.hid f9
        clear f9
        have Hf10 := Lib.hid f10
        clear f10
        have Hf11 := Lib.hid f11
        clear f11
        have Hd0_1 := Lib.hid d0_1
        clear d0_1
        have Hd0_2 := Lib.hid d0_2
        clear d0_2
        have Hd1_2 := Lib.hid d1_2
        clear d1_2
        have HB := Lib.hid hB
        clear hB
        try clear hd
        simp only [Act.put, List.setIfInBounds_toArray, List.set_cons_zero, List.set_cons_succ]
        go_simp
        have f0 := Hf0.out
        have f1 := Hf1.out
        have f2 := Hf2.out
        have f3 := Hf3.out
        have f4 := Hf4.out
        have f5 := Hf5.out
        have f6 := Hf6.out
        have f8 := Hf8.out
        have f9 := Hf9.out
        have f10 := Hf10.out
        have f11 := Hf11.out
        have d0_1 := Hd0_1.out
        have d0_2 := Hd0_2.out
        have d1_2 := Hd1_2.out
        refine hK.out _ _ ⟨u93, u94, u95, u96, u97, u98, u9, (.pointer (some ⟨w.heap.size, 0, none⟩)), u11, g9, w.heap.size, g11, p9_0, p9_1, p9_2, (.int .i64 0), (.int .i64 0), (.int .i64 0), p11_0, p11_1, p11_2, ?ha, bal HB.out (.cells #[.int .i64 0, .int .i64 0, .int .i64 0] 30), fun h => f0 (up_set (by decide) h), fun h => f1 (up_set (by decide) h), fun h => f2 (up_set (by decide) h), fun h => f3 (up_set (by decide) h), fun h => f4 (up_set (by decide) h), fun h => f5 (up_set (by decide) h), fun h => let ⟨x1, x2, x3⟩ := f6 (up_set (by decide) h); ⟨x1, x2, (Below.heap_alloc w (.cells #[.int .i64 0, .int .i64 0, .int .i64 0] 30) _ (lt_of_blk x3)).trans x3⟩, fun _ => ⟨rfl, HB.out.size, heap_alloc_new w (.cells #[.int .i64 0, .int .i64 0, .int .i64 0] 30)⟩, fun h => let ⟨x1, x2, x3⟩ := f8 (up_set (by decide) h); ⟨x1, x2, (Below.heap_alloc w (.cells #[.int .i64 0, .int .i64 0, .int .i64 0] 30) _ (lt_of_blk x3)).trans x3⟩, fun h => ⟨up_keep (f9 (up_set (by decide) h)).1, (f9 (up_set (by decide) h)).2⟩, fun h => absurd (f10 (up_set (by decide) h)).1 hnu, fun h => ⟨up_keep (f11 (up_set (by decide) h)).1, (f11 (up_set (by decide) h)).2⟩, fun h _ => by have := lt_of_blk (f6 (up_set (by decide) h)).2.2; omega, fun h1 h2 => d0_2 (up_set (by decide) h1) (up_set (by decide) h2), fun _ h => by have := lt_of_blk (f8 (up_set (by decide) h)).2.2; omega⟩
        case ha => simp only [Act.put, List.setIfInBounds_toArray, List.set_cons_zero, List.set_cons_succ]
      · rintro L a w ⟨u93, u94, u95, u96, u97, u98, u9, u10, u11, g9, g10, g11, p9_0, p9_1, p9_2, p10_0, p10_1, p10_2, p11_0, p11_1, p11_2, rfl, hB, f0, f1, f2, f3, f4, f5, f6, f7, f8, f9, f10, f11, d0_1, d0_2, d1_2⟩ hnu hd K' hK
        clear hd
        have Hf0 := Lib.hid f0
        clear f0
        have Hf1 := Lib.hid f1
        clear f1
        have Hf2 := Lib.hid f2
        clear f2
        have Hf3 := Lib.hid f3
        clear f3
        have Hf4 := Lib.hid f4
        clear f4
        have Hf5 := Lib.hid f5
        clear f5
        have Hf6 := Lib.hid f6
        clear f6
        have Hf7 := Lib.hid f7
        clear f7
        clear f8
        have Hf9 := Lib.hid f9
        clear f9
        have Hf10 := Lib.hid f10
        clear f10
        have Hf11 := Lib.hid f11
        clear f11
        have Hd0_1 := Lib.hid d0_1
        clear d0_1
        have Hd0_2 := Lib.hid d0_2
        clear d0_2
        have Hd1_2 := Lib.hid d1_2
        clear d1_2
        have HB := Lib.hid hB
        clear hB
        try clear hd
        simp only [Act.put, List.setIfInBounds_toArray, List.set_cons_zero, List.set_cons_succ]
        go_simp
        have f0 := Hf0.out
        have f1 := Hf1.out
        have f2 := Hf2.out
        have f3 := Hf3.out
        have f4 := Hf4.out
        have f5 := Hf5.out
        have f6 := Hf6.out
        have f7 := Hf7.out
        have f9 := Hf9.out
        have f10 := Hf10.out
        have f11 := Hf11.out
        have d0_1 := Hd0_1.out
        have d0_2 := Hd0_2.out
        have d1_2 := Hd1_2.out
        refine hK.out _ _ ⟨u93, u94, u95, u96, u97, u98, u9, u10, (.pointer (some ⟨w.heap.size, 0, none⟩)), g9, g10, w.heap.size, p9_0, p9_1, p9_2, p10_0, p10_1, p10_2, (.int .i64 0), (.int .i64 0), (.int .i64 0), ?ha, bal HB.out (.cells #[.int .i64 0, .int .i64 0, .int .i64 0] 30), fun h => f0 (up_set (by decide) h), fun h => f1 (up_set (by decide) h), fun h => f2 (up_set (by decide) h), fun h => f3 (up_set (by decide) h), fun h => f4 (up_set (by decide) h), fun h => f5 (up_set (by decide) h), fun h => let ⟨x1, x2, x3⟩ := f6 (up_set (by decide) h); ⟨x1, x2, (Below.heap_alloc w (.cells #[.int .i64 0, .int .i64 0, .int .i64 0] 30) _ (lt_of_blk x3)).trans x3⟩, fun h => let ⟨x1, x2, x3⟩ := f7 (up_set (by decide) h); ⟨x1, x2, (Below.heap_alloc w (.cells #[.int .i64 0, .int .i64 0, .int .i64 0] 30) _ (lt_of_blk x3)).trans x3⟩, fun _ => ⟨rfl, HB.out.size, heap_alloc_new w (.cells #[.int .i64 0, .int .i64 0, .int .i64 0] 30)⟩, fun h => ⟨up_keep (f9 (up_set (by decide) h)).1, (f9 (up_set (by decide) h)).2⟩, fun h => ⟨up_keep (f10 (up_set (by decide) h)).1, (f10 (up_set (by decide) h)).2⟩, fun h => absurd (f11 (up_set (by decide) h)).1 hnu, fun h1 h2 => d0_1 (up_set (by decide) h1) (up_set (by decide) h2), fun h _ => by have := lt_of_blk (f6 (up_set (by decide) h)).2.2; omega, fun h _ => by have := lt_of_blk (f7 (up_set (by decide) h)).2.2; omega⟩
        case ha => simp only [Act.put, List.setIfInBounds_toArray, List.set_cons_zero, List.set_cons_succ]
      · rintro L a w ⟨u93, u94, u95, u96, u97, u98, u9, u10, u11, g9, g10, g11, p9_0, p9_1, p9_2, p10_0, p10_1, p10_2, p11_0, p11_1, p11_2, rfl, hB, f0, f1, f2, f3, f4, f5, f6, f7, f8, f9, f10, f11, d0_1, d0_2, d1_2⟩ hnu hd K' hK
        simp [Region.binds] at hd
        have HU : Up L 6 := by simp [hd]
        have q9 := f6 (by simp [hd])
        have e9 := q9.1
        have b9 := q9.2.1
        have m9 := q9.2.2
        clear q9
        subst e9
        have e94 := f1 (by simp [hd])
        subst e94
        have Hf0 := Lib.hid f0
        clear f0
        have Hf1 := Lib.hid f1
        clear f1
        have Hf2 := Lib.hid f2
        clear f2
        have Hf3 := Lib.hid f3
        clear f3
        have Hf4 := Lib.hid f4
        clear f4
        have Hf5 := Lib.hid f5
        clear f5
        have Hf6 := Lib.hid f6
        clear f6
        have Hf7 := Lib.hid f7
        clear f7
        have Hf8 := Lib.hid f8
        clear f8
        clear f9
        have Hf10 := Lib.hid f10
        clear f10
        have Hf11 := Lib.hid f11
        clear f11
        have Hd0_1 := Lib.hid d0_1
        clear d0_1
        have Hd0_2 := Lib.hid d0_2
        clear d0_2
        have Hd1_2 := Lib.hid d1_2
        clear d1_2
        have HB := Lib.hid hB
        clear hB
        try clear hd
        have ccl0 : w.cell? ⟨g9, 0, none⟩ = some p9_0 := (cell_of_blk m9 0).1
        have zfr0 : w.frozen? ⟨g9, 0, none⟩ = false := (cell_of_blk m9 0).2
        have ccl1 : w.cell? ⟨g9, 1, none⟩ = some p9_1 := (cell_of_blk m9 1).1
        have zfr1 : w.frozen? ⟨g9, 1, none⟩ = false := (cell_of_blk m9 1).2
        have ccl2 : w.cell? ⟨g9, 2, none⟩ = some p9_2 := (cell_of_blk m9 2).1
        have zfr2 : w.frozen? ⟨g9, 2, none⟩ = false := (cell_of_blk m9 2).2
        have M := Lib.hid m9
        have Bq := Lib.hid b9
        clear m9 b9
        simp only [Act.put, List.setIfInBounds_toArray, List.set_cons_zero, List.set_cons_succ]
        go_simp
        have f0 := Hf0.out
        have f1 := Hf1.out
        have f2 := Hf2.out
        have f3 := Hf3.out
        have f4 := Hf4.out
        have f5 := Hf5.out
        have f6 := Hf6.out
        have f7 := Hf7.out
        have f8 := Hf8.out
        have f10 := Hf10.out
        have f11 := Hf11.out
        have d0_1 := Hd0_1.out
        have d0_2 := Hd0_2.out
        have d1_2 := Hd1_2.out
        refine hK.out _ _ ⟨u93, (.agg #[.int .i64 a1, .int .i64 a2, .int .i64 a3]), u95, u96, u97, u98, (.pointer (some ⟨g9, 0, none⟩)), u10, u11, g9, g10, g11, (.int .i64 a1), (.int .i64 a2), (.int .i64 a3), p10_0, p10_1, p10_2, p11_0, p11_1, p11_2, ?ha, ((((((HB.out).setCell Bq.out _)).setCell Bq.out _)).setCell Bq.out _), fun h => f0 (up_set (by decide) h), fun _ => rfl, fun h => f2 (up_set (by decide) h), fun h => f3 (up_set (by decide) h), fun h => f4 (up_set (by decide) h), fun h => f5 (up_set (by decide) h), fun _ => ⟨rfl, Bq.out, ?hown⟩, fun h => ?ho7, fun h => ?ho8, fun _ => ⟨up_keep HU, rfl, rfl, rfl⟩, fun h => ⟨up_keep (f10 (up_set (by decide) h)).1, (f10 (up_set (by decide) h)).2⟩, fun h => ⟨up_keep (f11 (up_set (by decide) h)).1, (f11 (up_set (by decide) h)).2⟩, fun h1 h2 => d0_1 (up_set (by decide) h1) (up_set (by decide) h2), fun h1 h2 => d0_2 (up_set (by decide) h1) (up_set (by decide) h2), fun h1 h2 => d1_2 (up_set (by decide) h1) (up_set (by decide) h2)⟩
        case ha => simp only [Act.put, List.setIfInBounds_toArray, List.set_cons_zero, List.set_cons_succ]
        case hown => exact (blk_set (blk_set (blk_set M.out 0 (.int .i64 a1)) 1 (.int .i64 a2)) 2 (.int .i64 a3))
        case ho7 =>
          have x1 := (f7 (up_set (by decide) h)).1
          have x2 := (f7 (up_set (by decide) h)).2.1
          have x3 := (f7 (up_set (by decide) h)).2.2
          exact ⟨x1, x2, (Below.heap_setCell _ _ _ _ ((d0_1 HU (up_set (by decide) h)).symm)).trans ((Below.heap_setCell _ _ _ _ ((d0_1 HU (up_set (by decide) h)).symm)).trans ((Below.heap_setCell _ _ _ _ ((d0_1 HU (up_set (by decide) h)).symm)).trans (x3)))⟩
        case ho8 =>
          have x1 := (f8 (up_set (by decide) h)).1
          have x2 := (f8 (up_set (by decide) h)).2.1
          have x3 := (f8 (up_set (by decide) h)).2.2
          exact ⟨x1, x2, (Below.heap_setCell _ _ _ _ ((d0_2 HU (up_set (by decide) h)).symm)).trans ((Below.heap_setCell _ _ _ _ ((d0_2 HU (up_set (by decide) h)).symm)).trans ((Below.heap_setCell _ _ _ _ ((d0_2 HU (up_set (by decide) h)).symm)).trans (x3)))⟩
      · rintro L a w ⟨u93, u94, u95, u96, u97, u98, u9, u10, u11, g9, g10, g11, p9_0, p9_1, p9_2, p10_0, p10_1, p10_2, p11_0, p11_1, p11_2, rfl, hB, f0, f1, f2, f3, f4, f5, f6, f7, f8, f9, f10, f11, d0_1, d0_2, d1_2⟩ hnu hd K' hK
        simp [Region.binds] at hd
        have HU : Up L 7 := by simp [hd]
        have q10 := f7 (by simp [hd])
        have e10 := q10.1
        have b10 := q10.2.1
        have m10 := q10.2.2
        clear q10
        subst e10
        have e96 := f3 (by simp [hd])
        subst e96
        have Hf0 := Lib.hid f0
        clear f0
        have Hf1 := Lib.hid f1
        clear f1
        have Hf2 := Lib.hid f2
        clear f2
        have Hf3 := Lib.hid f3
        clear f3
        have Hf4 := Lib.hid f4
        clear f4
        have Hf5 := Lib.hid f5
        clear f5
        have Hf6 := Lib.hid f6
        clear f6
        have Hf7 := Lib.hid f7
        clear f7
        have Hf8 := Lib.hid f8
        clear f8
        have Hf9 := Lib.hid f9
        clear f9
        clear f10
        have Hf11 := Lib.hid f11
        clear f11
        have Hd0_1 := Lib.hid d0_1
        clear d0_1
        have Hd0_2 := Lib.hid d0_2
        clear d0_2
        have Hd1_2 := Lib.hid d1_2
        clear d1_2
        have HB := Lib.hid hB
        clear hB
        try clear hd
        have ccl0 : w.cell? ⟨g10, 0, none⟩ = some p10_0 := (cell_of_blk m10 0).1
        have zfr0 : w.frozen? ⟨g10, 0, none⟩ = false := (cell_of_blk m10 0).2
        have ccl1 : w.cell? ⟨g10, 1, none⟩ = some p10_1 := (cell_of_blk m10 1).1
        have zfr1 : w.frozen? ⟨g10, 1, none⟩ = false := (cell_of_blk m10 1).2
        have ccl2 : w.cell? ⟨g10, 2, none⟩ = some p10_2 := (cell_of_blk m10 2).1
        have zfr2 : w.frozen? ⟨g10, 2, none⟩ = false := (cell_of_blk m10 2).2
        have M := Lib.hid m10
        have Bq := Lib.hid b10
        clear m10 b10
        simp only [Act.put, List.setIfInBounds_toArray, List.set_cons_zero, List.set_cons_succ]
        go_simp
        have f0 := Hf0.out
        have f1 := Hf1.out
        have f2 := Hf2.out
        have f3 := Hf3.out
        have f4 := Hf4.out
        have f5 := Hf5.out
        have f6 := Hf6.out
        have f7 := Hf7.out
        have f8 := Hf8.out
        have f9 := Hf9.out
        have f11 := Hf11.out
        have d0_1 := Hd0_1.out
        have d0_2 := Hd0_2.out
        have d1_2 := Hd1_2.out
        refine hK.out _ _ ⟨u93, u94, u95, (.agg #[.int .i64 b1, .int .i64 b2, .int .i64 b3]), u97, u98, u9, (.pointer (some ⟨g10, 0, none⟩)), u11, g9, g10, g11, p9_0, p9_1, p9_2, (.int .i64 b1), (.int .i64 b2), (.int .i64 b3), p11_0, p11_1, p11_2, ?ha, ((((((HB.out).setCell Bq.out _)).setCell Bq.out _)).setCell Bq.out _), fun h => f0 (up_set (by decide) h), fun h => f1 (up_set (by decide) h), fun h => f2 (up_set (by decide) h), fun _ => rfl, fun h => f4 (up_set (by decide) h), fun h => f5 (up_set (by decide) h), fun h => ?ho6, fun _ => ⟨rfl, Bq.out, ?hown⟩, fun h => ?ho8, fun h => ⟨up_keep (f9 (up_set (by decide) h)).1, (f9 (up_set (by decide) h)).2⟩, fun _ => ⟨up_keep HU, rfl, rfl, rfl⟩, fun h => ⟨up_keep (f11 (up_set (by decide) h)).1, (f11 (up_set (by decide) h)).2⟩, fun h1 h2 => d0_1 (up_set (by decide) h1) (up_set (by decide) h2), fun h1 h2 => d0_2 (up_set (by decide) h1) (up_set (by decide) h2), fun h1 h2 => d1_2 (up_set (by decide) h1) (up_set (by decide) h2)⟩
        case ha => simp only [Act.put, List.setIfInBounds_toArray, List.set_cons_zero, List.set_cons_succ]
        case hown => exact (blk_set (blk_set (blk_set M.out 0 (.int .i64 b1)) 1 (.int .i64 b2)) 2 (.int .i64 b3))
        case ho6 =>
          have x1 := (f6 (up_set (by decide) h)).1
          have x2 := (f6 (up_set (by decide) h)).2.1
          have x3 := (f6 (up_set (by decide) h)).2.2
          exact ⟨x1, x2, (Below.heap_setCell _ _ _ _ (d0_1 (up_set (by decide) h) HU)).trans ((Below.heap_setCell _ _ _ _ (d0_1 (up_set (by decide) h) HU)).trans ((Below.heap_setCell _ _ _ _ (d0_1 (up_set (by decide) h) HU)).trans (x3)))⟩
        case ho8 =>
          have x1 := (f8 (up_set (by decide) h)).1
          have x2 := (f8 (up_set (by decide) h)).2.1
          have x3 := (f8 (up_set (by decide) h)).2.2
          exact ⟨x1, x2, (Below.heap_setCell _ _ _ _ ((d1_2 HU (up_set (by decide) h)).symm)).trans ((Below.heap_setCell _ _ _ _ ((d1_2 HU (up_set (by decide) h)).symm)).trans ((Below.heap_setCell _ _ _ _ ((d1_2 HU (up_set (by decide) h)).symm)).trans (x3)))⟩
      · rintro L a w ⟨u93, u94, u95, u96, u97, u98, u9, u10, u11, g9, g10, g11, p9_0, p9_1, p9_2, p10_0, p10_1, p10_2, p11_0, p11_1, p11_2, rfl, hB, f0, f1, f2, f3, f4, f5, f6, f7, f8, f9, f10, f11, d0_1, d0_2, d1_2⟩ hnu hd K' hK
        simp [Region.binds] at hd
        have HU : Up L 8 := by simp [hd]
        have q11 := f8 (by simp [hd])
        have e11 := q11.1
        have b11 := q11.2.1
        have m11 := q11.2.2
        clear q11
        subst e11
        have e98 := f5 (by simp [hd])
        subst e98
        have Hf0 := Lib.hid f0
        clear f0
        have Hf1 := Lib.hid f1
        clear f1
        have Hf2 := Lib.hid f2
        clear f2
        have Hf3 := Lib.hid f3
        clear f3
        have Hf4 := Lib.hid f4
        clear f4
        have Hf5 := Lib.hid f5
        clear f5
        have Hf6 := Lib.hid f6
        clear f6
        have Hf7 := Lib.hid f7
        clear f7
        have Hf8 := Lib.hid f8
        clear f8
        have Hf9 := Lib.hid f9
        clear f9
        have Hf10 := Lib.hid f10
        clear f10
        clear f11
        have Hd0_1 := Lib.hid d0_1
        clear d0_1
        have Hd0_2 := Lib.hid d0_2
        clear d0_2
        have Hd1_2 := Lib.hid d1_2
        clear d1_2
        have HB := Lib.hid hB
        clear hB
        try clear hd
        have ccl0 : w.cell? ⟨g11, 0, none⟩ = some p11_0 := (cell_of_blk m11 0).1
        have zfr0 : w.frozen? ⟨g11, 0, none⟩ = false := (cell_of_blk m11 0).2
        have ccl1 : w.cell? ⟨g11, 1, none⟩ = some p11_1 := (cell_of_blk m11 1).1
        have zfr1 : w.frozen? ⟨g11, 1, none⟩ = false := (cell_of_blk m11 1).2
        have ccl2 : w.cell? ⟨g11, 2, none⟩ = some p11_2 := (cell_of_blk m11 2).1
        have zfr2 : w.frozen? ⟨g11, 2, none⟩ = false := (cell_of_blk m11 2).2
        have M := Lib.hid m11
        have Bq := Lib.hid b11
        clear m11 b11
        simp only [Act.put, List.setIfInBounds_toArray, List.set_cons_zero, List.set_cons_succ]
        go_simp
        have f0 := Hf0.out
        have f1 := Hf1.out
        have f2 := Hf2.out
        have f3 := Hf3.out
        have f4 := Hf4.out
        have f5 := Hf5.out
        have f6 := Hf6.out
        have f7 := Hf7.out
        have f8 := Hf8.out
        have f9 := Hf9.out
        have f10 := Hf10.out
        have d0_1 := Hd0_1.out
        have d0_2 := Hd0_2.out
        have d1_2 := Hd1_2.out
        refine hK.out _ _ ⟨u93, u94, u95, u96, u97, (.agg #[.int .i64 c1, .int .i64 c2, .int .i64 c3]), u9, u10, (.pointer (some ⟨g11, 0, none⟩)), g9, g10, g11, p9_0, p9_1, p9_2, p10_0, p10_1, p10_2, (.int .i64 c1), (.int .i64 c2), (.int .i64 c3), ?ha, ((((((HB.out).setCell Bq.out _)).setCell Bq.out _)).setCell Bq.out _), fun h => f0 (up_set (by decide) h), fun h => f1 (up_set (by decide) h), fun h => f2 (up_set (by decide) h), fun h => f3 (up_set (by decide) h), fun h => f4 (up_set (by decide) h), fun _ => rfl, fun h => ?ho6, fun h => ?ho7, fun _ => ⟨rfl, Bq.out, ?hown⟩, fun h => ⟨up_keep (f9 (up_set (by decide) h)).1, (f9 (up_set (by decide) h)).2⟩, fun h => ⟨up_keep (f10 (up_set (by decide) h)).1, (f10 (up_set (by decide) h)).2⟩, fun _ => ⟨up_keep HU, rfl, rfl, rfl⟩, fun h1 h2 => d0_1 (up_set (by decide) h1) (up_set (by decide) h2), fun h1 h2 => d0_2 (up_set (by decide) h1) (up_set (by decide) h2), fun h1 h2 => d1_2 (up_set (by decide) h1) (up_set (by decide) h2)⟩
        case ha => simp only [Act.put, List.setIfInBounds_toArray, List.set_cons_zero, List.set_cons_succ]
        case hown => exact (blk_set (blk_set (blk_set M.out 0 (.int .i64 c1)) 1 (.int .i64 c2)) 2 (.int .i64 c3))
        case ho6 =>
          have x1 := (f6 (up_set (by decide) h)).1
          have x2 := (f6 (up_set (by decide) h)).2.1
          have x3 := (f6 (up_set (by decide) h)).2.2
          exact ⟨x1, x2, (Below.heap_setCell _ _ _ _ (d0_2 (up_set (by decide) h) HU)).trans ((Below.heap_setCell _ _ _ _ (d0_2 (up_set (by decide) h) HU)).trans ((Below.heap_setCell _ _ _ _ (d0_2 (up_set (by decide) h) HU)).trans (x3)))⟩
        case ho7 =>
          have x1 := (f7 (up_set (by decide) h)).1
          have x2 := (f7 (up_set (by decide) h)).2.1
          have x3 := (f7 (up_set (by decide) h)).2.2
          exact ⟨x1, x2, (Below.heap_setCell _ _ _ _ (d1_2 (up_set (by decide) h) HU)).trans ((Below.heap_setCell _ _ _ _ (d1_2 (up_set (by decide) h) HU)).trans ((Below.heap_setCell _ _ _ _ (d1_2 (up_set (by decide) h) HU)).trans (x3)))⟩
    case hend =>
      rintro L a w ⟨u93, u94, u95, u96, u97, u98, u9, u10, u11, g9, g10, g11, p9_0, p9_1, p9_2, p10_0, p10_1, p10_2, p11_0, p11_1, p11_2, rfl, hB, f0, f1, f2, f3, f4, f5, f6, f7, f8, f9, f10, f11, d0_1, d0_2, d1_2⟩ hall
      have e93 := f0 (hall 0 (by decide))
      subst e93
      have e94 := f1 (hall 1 (by decide))
      subst e94
      have e95 := f2 (hall 2 (by decide))
      subst e95
      have e96 := f3 (hall 3 (by decide))
      subst e96
      have e97 := f4 (hall 4 (by decide))
      subst e97
      have e98 := f5 (hall 5 (by decide))
      subst e98
      have e9 := (f6 (hall 6 (by decide))).1
      have m9 := (f6 (hall 6 (by decide))).2.2
      subst e9
      have e10 := (f7 (hall 7 (by decide))).1
      have m10 := (f7 (hall 7 (by decide))).2.2
      subst e10
      have e11 := (f8 (hall 8 (by decide))).1
      have m11 := (f8 (hall 8 (by decide))).2.2
      subst e11
      have s9 := (f9 (hall 9 (by decide))).2
      obtain ⟨rfl, rfl, rfl⟩ := s9
      have s10 := (f10 (hall 10 (by decide))).2
      obtain ⟨rfl, rfl, rfl⟩ := s10
      have s11 := (f11 (hall 11 (by decide))).2
      obtain ⟨rfl, rfl, rfl⟩ := s11
      simp only [Act.put, List.setIfInBounds_toArray, List.set_cons_zero, List.set_cons_succ]
      go_wp2_with fail
      go_meet
      exact ⟨_, _, _, rfl, rfl, rfl, m9, m10, m11, hB⟩
  case rest =>
    obtain ⟨bx, by_, bz, rfl, rfl, rfl, g0, g1, g2, hbx⟩ := hcut
    have hS2 : ∀ w', Below wc.heap.size wc w' → (w'.cell? ⟨bx, 0, none⟩ = some (.int .i64 a1) ∧ w'.cell? ⟨bx, 1, none⟩ = some (.int .i64 a2) ∧ w'.cell? ⟨bx, 2, none⟩ = some (.int .i64 a3) ∧ w'.cell? ⟨by_, 0, none⟩ = some (.int .i64 b1) ∧ w'.cell? ⟨by_, 1, none⟩ = some (.int .i64 b2) ∧ w'.cell? ⟨by_, 2, none⟩ = some (.int .i64 b3) ∧ w'.cell? ⟨bz, 0, none⟩ = some (.int .i64 c1) ∧ w'.cell? ⟨bz, 1, none⟩ = some (.int .i64 c2) ∧ w'.cell? ⟨bz, 2, none⟩ = some (.int .i64 c3) ∧ Below wc.heap.size wc w') := by
      intro w' hb
      have y0 := (hb.block _ (lt_of_blk g0)).trans g0
      have y1 := (hb.block _ (lt_of_blk g1)).trans g1
      have y2 := (hb.block _ (lt_of_blk g2)).trans g2
      exact ⟨(cell_of_blk y0 0).1, (cell_of_blk y0 1).1, (cell_of_blk y0 2).1, (cell_of_blk y1 0).1, (cell_of_blk y1 1).1, (cell_of_blk y1 2).1, (cell_of_blk y2 0).1, (cell_of_blk y2 1).1, (cell_of_blk y2 2).1, hb⟩
    obtain ⟨m0, m1, m2, m3, m4, m5, m6, m7, m8, m9⟩ := hS2 wc (Below.refl _ _)
    have HS2 := Lib.hid hS2
    have keep2 : ∀ a b : World, Below wc.heap.size wc a → Below a.heap.size a b → Below wc.heap.size wc b := fun a b h k => bch h k
    have KEEP2 := Lib.hid keep2
    have HBX := Lib.hid hbx
    clear hS2 keep2 g0 g1 g2 hbx
    go_wp2_with fail
    go_region_held3 (fun w' => w'.cell? ⟨bx, 0, none⟩ = some (.int .i64 a1) ∧ w'.cell? ⟨bx, 1, none⟩ = some (.int .i64 a2) ∧ w'.cell? ⟨bx, 2, none⟩ = some (.int .i64 a3) ∧ w'.cell? ⟨by_, 0, none⟩ = some (.int .i64 b1) ∧ w'.cell? ⟨by_, 1, none⟩ = some (.int .i64 b2) ∧ w'.cell? ⟨by_, 2, none⟩ = some (.int .i64 b3) ∧ w'.cell? ⟨bz, 0, none⟩ = some (.int .i64 c1) ∧ w'.cell? ⟨bz, 1, none⟩ = some (.int .i64 c2) ∧ w'.cell? ⟨bz, 2, none⟩ = some (.int .i64 c3) ∧ Below wc.heap.size wc w')
      (first | exact HS2.out _ (by first | assumption | exact Below.drew (by assumption)))
      (first | ((with_reducible go_at_call 60); (with_reducible refine (T1.out _).mono ?_); rintro e w7 ⟨rfl, hb6⟩; have HB6 := KEEP2.out _ _ (by first | assumption | exact Below.drew (by assumption)) hb6) | ((with_reducible go_at_call 60); (with_reducible refine (T2.out _).mono ?_); rintro e w7 ⟨rfl, hb6⟩; have HB6 := KEEP2.out _ _ (by first | assumption | exact Below.drew (by assumption)) hb6) | ((with_reducible go_at_call 60); (with_reducible refine (T3.out _).mono ?_); rintro e w7 ⟨rfl, hb6⟩; have HB6 := KEEP2.out _ _ (by first | assumption | exact Below.drew (by assumption)) hb6) | ((with_reducible go_at_call 60); (with_reducible refine (T4.out _).mono ?_); rintro e w7 ⟨rfl, hb6⟩; have HB6 := KEEP2.out _ _ (by first | assumption | exact Below.drew (by assumption)) hb6) | ((with_reducible go_at_call 60); (with_reducible refine (T5.out _).mono ?_); rintro e w7 ⟨rfl, hb6⟩; have HB6 := KEEP2.out _ _ (by first | assumption | exact Below.drew (by assumption)) hb6) | ((with_reducible go_at_call 60); (with_reducible refine (T6.out _).mono ?_); rintro e w7 ⟨rfl, hb6⟩; have HB6 := KEEP2.out _ _ (by first | assumption | exact Below.drew (by assumption)) hb6) | ((with_reducible go_at_call 61); (with_reducible refine (B1.out _).mono ?_); rintro e w7 ⟨rfl, hb6⟩; have HB6 := KEEP2.out _ _ (by first | assumption | exact Below.drew (by assumption)) hb6) | ((with_reducible go_at_call 61); (with_reducible refine (B2.out _).mono ?_); rintro e w7 ⟨rfl, hb6⟩; have HB6 := KEEP2.out _ _ (by first | assumption | exact Below.drew (by assumption)) hb6) | ((with_reducible go_at_call 52); refine (law36_lives _).mono ?_; rintro e w8 ⟨rfl, hb6⟩; have HB6 := KEEP2.out _ _ (by first | assumption | exact Below.drew (by assumption)) hb6))
    go_wp2
    go_ret
    exact ⟨rfl, bch HX.out.1 (bch HBX.out HB6)⟩
set_option maxHeartbeats 8000000 in
theorem walk (a1 a2 a3 b1 b2 b3 c1 c2 c3 : Int) (v0 v1 v2 : Value) (h0 : v0 = .agg #[.int .i64 a1, .int .i64 a2, .int .i64 a3]) (h1 : v1 = .agg #[.int .i64 b1, .int .i64 b2, .int .i64 b3]) (h2 : v2 = .agg #[.int .i64 c1, .int .i64 c2, .int .i64 c3]) (w : World) :
    Calls Try.prog 11 #[v0, v1, v2] w fun e w' => e = .returned (.bool true) ∧ Below w.heap.size w w' := by
  subst h0 h1 h2
  by_cases p0 : -274877906944 < a1
  · by_cases p1 : -274877906944 < a2
    · by_cases p2 : -274877906944 < b1
      · by_cases p3 : -274877906944 < b2
        · by_cases p4 : -274877906944 < c1
          · by_cases p5 : -274877906944 < c2
            · by_cases hM : maxl a1 [wrap64 (-a1), a2, wrap64 (-a2), b1, wrap64 (-b1), b2, wrap64 (-b2), c1, wrap64 (-c1), c2, wrap64 (-c2)] < 274877906944
              · rw [maxl_lt] at hM
                simp only [List.mem_cons, forall_eq_or_imp, List.not_mem_nil, false_implies, implies_true, and_true] at hM
                have ma := (rfl : mayB a1 a2 a3 = mayB a1 a2 a3)
                cases hma : mayB a1 a2 a3
                · exact nomay0 _ _ _ _ _ _ _ _ _ w p0 (by omega) p1 (by omega) p2 (by omega) p3 (by omega) p4 (by omega) p5 (by omega) hma
                · cases hmb : mayB b1 b2 b3
                  · exact nomay1 _ _ _ _ _ _ _ _ _ w p0 (by omega) p1 (by omega) p2 (by omega) p3 (by omega) p4 (by omega) p5 (by omega) hma hmb
                  · cases hmc : mayB c1 c2 c3
                    · exact nomay2 _ _ _ _ _ _ _ _ _ w p0 (by omega) p1 (by omega) p2 (by omega) p3 (by omega) p4 (by omega) p5 (by omega) hma hmb hmc
                    · exact main _ _ _ _ _ _ _ _ _ w p0 (by omega) p1 (by omega) p2 (by omega) p3 (by omega) p4 (by omega) p5 (by omega) hma hmb hmc
              · exact far6 _ _ _ _ _ _ _ _ _ w p0 p1 p2 p3 p4 p5 hM
            · exact far5 _ _ _ _ _ _ _ _ _ w p0 p1 p2 p3 p4 (by omega)
          · exact far4 _ _ _ _ _ _ _ _ _ w p0 p1 p2 p3 (by omega)
        · exact far3 _ _ _ _ _ _ _ _ _ w p0 p1 p2 (by omega)
      · exact far2 _ _ _ _ _ _ _ _ _ w p0 p1 (by omega)
    · exact far1 _ _ _ _ _ _ _ _ _ w p0 (by omega)
  · exact far0 _ _ _ _ _ _ _ _ _ w (by omega)

theorem own : ownKnob Try.prog.godebug = none := by kernel_rfl
set_option maxRecDepth 100000 in
theorem lifted (os : Os) (started : os.Started) (H : Type) (enc : TypeId × Value → H) :
    ReturnsInHanded {} Try.checked os 11 .any (Rows.walkGroupSpec.pre6 enc Try.prog Try.f11 Rows.walkGroupRow.domain false) (Rows.walkGroupSpec.post enc Try.prog Try.f11 false true false false) := by
  refine returnsInHanded_of_change_sized (C := Try.checked) own started (by kernel_rfl) Try.func11
    (ChangeSpec.witness6 (enc := enc) (C := Try.checked) false ⟨#[], #[.agg #[.int .i64 0, .int .i64 0, .int .i64 0], .agg #[.int .i64 0, .int .i64 0, .int .i64 0], .agg #[.int .i64 0, .int .i64 0, .int .i64 0]], []⟩ 8 (by kernel_rfl) (by kernel_rfl) (by kernel_rfl) (by kernel_rfl)) ?_
  intro W base args ds gs before hval0 hW hcnd hsz _
  have hval : ∀ (j : Nat) t v, Try.f11.params[j]? = some t → args[j]? = some v → Value.okWide Try.prog W .any base t v := hval0
  have hW' := hW
  obtain ⟨p, q, hA0, hV, rfl, hfz, hnd⟩ := hW
  have hA : DataW.TrodAll enc Try.prog W 0 (fun _ => true) true Try.f11.params.toList args.toList ds p := hA0
  rw [Try.params11] at hA hval
  obtain ⟨v0, vs0, d0, ds0, p0, q0, hargs, rfl, rfl, h0, r0⟩ := trodAll_cons hA
  obtain ⟨v1, vs1, d1, ds1, p1, q1, rfl, rfl, rfl, h1, r1⟩ := trodAll_cons r0
  obtain ⟨v2, vs2, d2, ds2, p2, q2, rfl, rfl, rfl, h2, r2⟩ := trodAll_cons r1
  obtain ⟨rfl, rfl, rfl⟩ := trodAll_nil r2
  obtain rfl : args = #[v0, v1, v2] := by cases args; simp_all
  obtain ⟨rfl, rfl⟩ := trodVars_none hV
  clear hA0 hval0
  obtain ⟨a1, a2, a3, ha, _⟩ := open_walk (hval 0 33 v0 rfl rfl) h0 (fun x hx => by simpa using hW'.lt x (by simp [hx])) (weights_of hsz 0 rfl rfl)
  obtain ⟨b1, b2, b3, hb, _⟩ := open_walk (hval 1 33 v1 rfl rfl) h1 (fun x hx => by simpa using hW'.lt x (by simp [hx])) (weights_of hsz 1 rfl rfl)
  obtain ⟨c1, c2, c3, hc, _⟩ := open_walk (hval 2 33 v2 rfl rfl) h2 (fun x hx => by simpa using hW'.lt x (by simp [hx])) (weights_of hsz 2 rfl rfl)
  refine (walk a1 a2 a3 b1 b2 b3 c1 c2 c3 v0 v1 v2 ha hb hc W).mono fun e W' ⟨he, hg⟩ => ?_
  subst he
  exact ⟨_, rfl, law_post (by kernel_rfl) (by kernel_rfl) rfl (by kernel_rfl) Try.underlying4 rfl hW' hg⟩

theorem proved : Rows.WalkGroupSaid :=
  OpenClaim.holds_of_wide 11 Try.f11 rfl rfl rfl rfl rfl rfl rfl ⟨rfl, rfl, rfl, rfl, rfl⟩ rfl rfl rfl rfl rfl (by kernel_rfl) Try.func11 (by kernel_rfl)
    (of_decide_eq_true (by kernel_rfl)) (by unfold Func.isWrapper; first | (rw [if_pos (by decide +kernel)]; kernel_rfl) | (rw [if_neg (by decide +kernel)]; exact ⟨rfl, rfl⟩))
    (fun os started H enc _ => lifted os started H enc)
#print axioms proved
end Go.Proofs.Ytgkaempkapnfcaa.walkGroup
