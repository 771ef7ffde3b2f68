/- Parts of a proof. No condition but those that each theorem names. -/
import Derived.WalkKit
import Derived.OpenShut
import Derived.Below
import Derived.Lib.Hide
import Derived.Laws.OwnMore
import Derived.Deep.QuietTactic
import Derived.Deep.AppendLies
import Derived.ProofKit
import Derived.SizedLaws
import Derived.Test.YtfadeipdepamlaaProg
import Derived.Handy
import Derived.Deep.RegionHeld3
import Derived.BigQuiet
import Derived.Maps.AppendAt
import Derived.Maps.RangeWalk
import Derived.Maps.OwnSet
import Derived.StillTailTactics
import Derived.Laws.CopyOwn
import Derived.Lib.BufferWrite
import Derived.OrdersHeld
import Derived.RegionTactic
import Derived.Test.YtfadeipdepamlaaSdG0e0
import Derived.Test.YtfadeipdepamlaaSdG0e1
import Derived.Test.YtfadeipdepamlaaSdIr
import Derived.Test.YtfadeipdepamlaaSdG1e2
import Derived.Test.YtfadeipdepamlaaSdG1e4
import Derived.Test.YtfadeipdepamlaaSdIrC
import Derived.Test.YtfadeipdepamlaaSdG2e5
import Derived.Test.YtfadeipdepamlaaSdG2e6
import Derived.Test.YtfadeipdepamlaaSdG0e11
import Derived.Test.YtfadeipdepamlaaSdG2e13
namespace Go.Proofs.Ytfadeipdepamlaa
open Go.RowKit Go.Maps
set_option linter.unusedVariables false
def cpOp (f : Int → Option Int) (o : Opn) : Opn := ⟨o.kind, o.dst, if 0 < fSrc o.kind then cpOf f o.a else o.a, if 1 < fSrc o.kind then cpOf f o.b else o.b, if 2 < fSrc o.kind then cpOf f o.c else o.c, o.imm⟩
theorem intR_lit {n : Int} (h : IntR n) : (Lit.int .i64 n).wf = true := WalkArith.wf_i64 (by unfold IntR at h; omega)
theorem blk_far {w : World} {g : Nat} {x : Obj} (h : w.heap[g]? = some x) (q : Addr) (u : Value) (hne : q.block ≠ g) : (w.setCell q u).heap[g]? = some x := (Below.heap_setCell w q u g (fun e => hne e.symm)).trans h
def CopPost (o : Opn) (w : World) (e : Ending) (w' : World) : Prop := e = .returned (opVal o) ∧ Below w.heap.size w w'
set_option maxRecDepth 100000 in
set_option maxHeartbeats 4000000 in
theorem cop_op_0 (b m : Nat) (f : Int → Option Int) (o : Opn) (hf : o.fine) (hn : fSrc o.kind = 0) (w : World) (h : MapAt w b m f) :
    Calls Try.prog 27 #[.map (some b), .agg #[.int .i64 o.kind, .int .i64 o.dst, .int .i64 o.a, .int .i64 o.b, .int .i64 o.c, .int .i64 o.imm]] w (CopPost ⟨o.kind, o.dst, o.a, o.b, o.c, o.imm⟩ w) := by
  have HU := Lib.hid (fun W => ir_Uses o W)
  have HOF := Lib.hid (fun t ht W h => cop_of b m f t ht W h)
  obtain ⟨_, _, fa, fb, fc, _⟩ := hf
  have HFA := Lib.hid (intR_lit fa)
  have HFB := Lib.hid (intR_lit fb)
  have HFC := Lib.hid (intR_lit fc)
  unfold opVal at HU
  unfold CopPost opVal
  rw [hn] at HU
  have HM := Lib.hid h
  have e1 := alloc_size w (.cells #[.int .i64 o.kind, .int .i64 o.dst, .int .i64 o.a, .int .i64 o.b, .int .i64 o.c, .int .i64 o.imm] 41) rfl
  have hX := alloc_old (alloc_last w _ rfl (.cells #[.int .i64 o.kind, .int .i64 o.dst, .int .i64 o.a, .int .i64 o.b, .int .i64 o.c, .int .i64 o.imm] 41)) (.cells #[.int .i64 0, .int .i64 0, .int .i64 0, .int .i64 0, .int .i64 0, .int .i64 0] 41)
  have hR := alloc_last _ _ e1 (.cells #[.int .i64 0, .int .i64 0, .int .i64 0, .int .i64 0, .int .i64 0, .int .i64 0] 41)
  have hB := bal (bnew w (.cells #[.int .i64 o.kind, .int .i64 o.dst, .int .i64 o.a, .int .i64 o.b, .int .i64 o.c, .int .i64 o.imm] 41)) (.cells #[.int .i64 0, .int .i64 0, .int .i64 0, .int .i64 0, .int .i64 0, .int .i64 0] 41)
  have HML := Lib.hid h.lt
  clear h hn fa fb fc
  go_enter Try.func27, Try.ntmps27
  go_wp2_with fail
  generalize (w.alloc (.cells #[.int .i64 o.kind, .int .i64 o.dst, .int .i64 o.a, .int .i64 o.b, .int .i64 o.c, .int .i64 o.imm] 41)).alloc (.cells #[.int .i64 0, .int .i64 0, .int .i64 0, .int .i64 0, .int .i64 0, .int .i64 0] 41) = w1 at *
  refine (HU.out _).mono ?_
  rintro e w2 ⟨g, rfl, _, _, hb2⟩
  have hX2 := (hb2.block _ (lt_of_blk hX)).trans hX
  have hR2 := (hb2.block _ (lt_of_blk hR)).trans hR
  have HB2 := Lib.hid (bch hB hb2)
  have HM2 := Lib.hid (HM.out.below HB2.out)
  obtain ⟨d0, d1, d2, d3, d4, d5, f1, f2', f3, f4⟩ := op_cells_at hX2
  obtain ⟨r0, t0⟩ := cell_of_blk hR2 0
  obtain ⟨r1, t1⟩ := cell_of_blk hR2 1
  obtain ⟨r2, t2⟩ := cell_of_blk hR2 2
  obtain ⟨r3, t3⟩ := cell_of_blk hR2 3
  obtain ⟨r4, t4⟩ := cell_of_blk hR2 4
  obtain ⟨r5, t5⟩ := cell_of_blk hR2 5
  have HX2 := Lib.hid hX2
  have HR2 := Lib.hid hR2
  clear hX hR hB hb2 hX2 hR2 e1
  go_wp2_with fail
  have hrf := blk_set (blk_set (blk_set (blk_set (blk_set (blk_set (HR2.out) 0 (.int .i64 o.kind)) 1 (.int .i64 o.dst)) 2 (.int .i64 o.a)) 3 (.int .i64 o.b)) 4 (.int .i64 o.c)) 5 (.int .i64 o.imm)
  have hbf := ((((((HB2.out).setCell (p := ⟨w.heap.size + 1, 0, none⟩) (by show w.heap.size ≤ w.heap.size + 1; omega) (.int .i64 o.kind)).setCell (p := ⟨w.heap.size + 1, 1, none⟩) (by show w.heap.size ≤ w.heap.size + 1; omega) (.int .i64 o.dst)).setCell (p := ⟨w.heap.size + 1, 2, none⟩) (by show w.heap.size ≤ w.heap.size + 1; omega) (.int .i64 o.a)).setCell (p := ⟨w.heap.size + 1, 3, none⟩) (by show w.heap.size ≤ w.heap.size + 1; omega) (.int .i64 o.b)).setCell (p := ⟨w.heap.size + 1, 4, none⟩) (by show w.heap.size ≤ w.heap.size + 1; omega) (.int .i64 o.c)).setCell (p := ⟨w.heap.size + 1, 5, none⟩) (by show w.heap.size ≤ w.heap.size + 1; omega) (.int .i64 o.imm)
  generalize (((((w2.setCell ⟨w.heap.size + 1, 0, none⟩ (.int .i64 o.kind)).setCell ⟨w.heap.size + 1, 1, none⟩ (.int .i64 o.dst)).setCell ⟨w.heap.size + 1, 2, none⟩ (.int .i64 o.a)).setCell ⟨w.heap.size + 1, 3, none⟩ (.int .i64 o.b)).setCell ⟨w.heap.size + 1, 4, none⟩ (.int .i64 o.c)).setCell ⟨w.heap.size + 1, 5, none⟩ (.int .i64 o.imm) = w9 at *
  have k0 : w9.cell? ⟨w.heap.size + 1, 0, none⟩ = some (.int .i64 o.kind) := (cell_of_blk hrf 0).1
  have k1 : w9.cell? ⟨w.heap.size + 1, 1, none⟩ = some (.int .i64 o.dst) := (cell_of_blk hrf 1).1
  have k2 : w9.cell? ⟨w.heap.size + 1, 2, none⟩ = some (.int .i64 o.a) := (cell_of_blk hrf 2).1
  have k3 : w9.cell? ⟨w.heap.size + 1, 3, none⟩ = some (.int .i64 o.b) := (cell_of_blk hrf 3).1
  have k4 : w9.cell? ⟨w.heap.size + 1, 4, none⟩ = some (.int .i64 o.c) := (cell_of_blk hrf 4).1
  have k5 : w9.cell? ⟨w.heap.size + 1, 5, none⟩ = some (.int .i64 o.imm) := (cell_of_blk hrf 5).1
  clear hrf r0 r1 r2 r3 r4 r5 t0 t1 t2 t3 t4 t5 d0 d1 d2 d3 d4 d5 f1 f2' f3 f4
  refine bodyPost_ret (v := .agg #[.int .i64 o.kind, .int .i64 o.dst, .int .i64 o.a, .int .i64 o.b, .int .i64 o.c, .int .i64 o.imm]) (by simp [results, Try.results27, go_sem, k0, k1, k2, k3, k4, k5]; try rfl) rfl ?_
  exact ⟨rfl, hbf⟩
set_option maxRecDepth 100000 in
set_option maxHeartbeats 4000000 in
theorem cop_op_1 (b m : Nat) (f : Int → Option Int) (o : Opn) (hf : o.fine) (hn : fSrc o.kind = 1) (w : World) (h : MapAt w b m f) :
    Calls Try.prog 27 #[.map (some b), .agg #[.int .i64 o.kind, .int .i64 o.dst, .int .i64 o.a, .int .i64 o.b, .int .i64 o.c, .int .i64 o.imm]] w (CopPost ⟨o.kind, o.dst, (cpOf f o.a), o.b, o.c, o.imm⟩ w) := by
  have HU := Lib.hid (fun W => ir_Uses o W)
  have HOF := Lib.hid (fun t ht W h => cop_of b m f t ht W h)
  obtain ⟨_, _, fa, fb, fc, _⟩ := hf
  have HFA := Lib.hid (intR_lit fa)
  have HFB := Lib.hid (intR_lit fb)
  have HFC := Lib.hid (intR_lit fc)
  unfold opVal at HU
  unfold CopPost opVal
  rw [hn] at HU
  have HM := Lib.hid h
  have e1 := alloc_size w (.cells #[.int .i64 o.kind, .int .i64 o.dst, .int .i64 o.a, .int .i64 o.b, .int .i64 o.c, .int .i64 o.imm] 41) rfl
  have hX := alloc_old (alloc_last w _ rfl (.cells #[.int .i64 o.kind, .int .i64 o.dst, .int .i64 o.a, .int .i64 o.b, .int .i64 o.c, .int .i64 o.imm] 41)) (.cells #[.int .i64 0, .int .i64 0, .int .i64 0, .int .i64 0, .int .i64 0, .int .i64 0] 41)
  have hR := alloc_last _ _ e1 (.cells #[.int .i64 0, .int .i64 0, .int .i64 0, .int .i64 0, .int .i64 0, .int .i64 0] 41)
  have hB := bal (bnew w (.cells #[.int .i64 o.kind, .int .i64 o.dst, .int .i64 o.a, .int .i64 o.b, .int .i64 o.c, .int .i64 o.imm] 41)) (.cells #[.int .i64 0, .int .i64 0, .int .i64 0, .int .i64 0, .int .i64 0, .int .i64 0] 41)
  have HML := Lib.hid h.lt
  clear h hn fa fb fc
  go_enter Try.func27, Try.ntmps27
  go_wp2_with fail
  generalize (w.alloc (.cells #[.int .i64 o.kind, .int .i64 o.dst, .int .i64 o.a, .int .i64 o.b, .int .i64 o.c, .int .i64 o.imm] 41)).alloc (.cells #[.int .i64 0, .int .i64 0, .int .i64 0, .int .i64 0, .int .i64 0, .int .i64 0] 41) = w1 at *
  refine (HU.out _).mono ?_
  rintro e w2 ⟨g, rfl, _, _, hb2⟩
  have hX2 := (hb2.block _ (lt_of_blk hX)).trans hX
  have hR2 := (hb2.block _ (lt_of_blk hR)).trans hR
  have HB2 := Lib.hid (bch hB hb2)
  have HM2 := Lib.hid (HM.out.below HB2.out)
  obtain ⟨d0, d1, d2, d3, d4, d5, f1, f2', f3, f4⟩ := op_cells_at hX2
  obtain ⟨r0, t0⟩ := cell_of_blk hR2 0
  obtain ⟨r1, t1⟩ := cell_of_blk hR2 1
  obtain ⟨r2, t2⟩ := cell_of_blk hR2 2
  obtain ⟨r3, t3⟩ := cell_of_blk hR2 3
  obtain ⟨r4, t4⟩ := cell_of_blk hR2 4
  obtain ⟨r5, t5⟩ := cell_of_blk hR2 5
  have HX2 := Lib.hid hX2
  have HR2 := Lib.hid hR2
  clear hX hR hB hb2 hX2 hR2 e1
  go_wp2_with fail
  refine (HOF.out o.a HFA.out _ (HM2.out)).mono ?_
  rintro e _ ⟨rfl, rfl⟩
  go_wp2_with fail
  have hrf := blk_set (blk_set (blk_set (blk_set (blk_set (blk_set (blk_far (HR2.out) ⟨w.heap.size, 2, none⟩ (.int .i64 (cpOf f o.a)) (by show w.heap.size ≠ w.heap.size + 1; omega)) 0 (.int .i64 o.kind)) 1 (.int .i64 o.dst)) 2 (.int .i64 (cpOf f o.a))) 3 (.int .i64 o.b)) 4 (.int .i64 o.c)) 5 (.int .i64 o.imm)
  have hbf := (((((((HB2.out).setCell (p := ⟨w.heap.size, 2, none⟩) (Nat.le_refl _) (.int .i64 (cpOf f o.a))).setCell (p := ⟨w.heap.size + 1, 0, none⟩) (by show w.heap.size ≤ w.heap.size + 1; omega) (.int .i64 o.kind)).setCell (p := ⟨w.heap.size + 1, 1, none⟩) (by show w.heap.size ≤ w.heap.size + 1; omega) (.int .i64 o.dst)).setCell (p := ⟨w.heap.size + 1, 2, none⟩) (by show w.heap.size ≤ w.heap.size + 1; omega) (.int .i64 (cpOf f o.a))).setCell (p := ⟨w.heap.size + 1, 3, none⟩) (by show w.heap.size ≤ w.heap.size + 1; omega) (.int .i64 o.b)).setCell (p := ⟨w.heap.size + 1, 4, none⟩) (by show w.heap.size ≤ w.heap.size + 1; omega) (.int .i64 o.c)).setCell (p := ⟨w.heap.size + 1, 5, none⟩) (by show w.heap.size ≤ w.heap.size + 1; omega) (.int .i64 o.imm)
  generalize ((((((w2.setCell ⟨w.heap.size, 2, none⟩ (.int .i64 (cpOf f o.a))).setCell ⟨w.heap.size + 1, 0, none⟩ (.int .i64 o.kind)).setCell ⟨w.heap.size + 1, 1, none⟩ (.int .i64 o.dst)).setCell ⟨w.heap.size + 1, 2, none⟩ (.int .i64 (cpOf f o.a))).setCell ⟨w.heap.size + 1, 3, none⟩ (.int .i64 o.b)).setCell ⟨w.heap.size + 1, 4, none⟩ (.int .i64 o.c)).setCell ⟨w.heap.size + 1, 5, none⟩ (.int .i64 o.imm) = w9 at *
  have k0 : w9.cell? ⟨w.heap.size + 1, 0, none⟩ = some (.int .i64 o.kind) := (cell_of_blk hrf 0).1
  have k1 : w9.cell? ⟨w.heap.size + 1, 1, none⟩ = some (.int .i64 o.dst) := (cell_of_blk hrf 1).1
  have k2 : w9.cell? ⟨w.heap.size + 1, 2, none⟩ = some (.int .i64 (cpOf f o.a)) := (cell_of_blk hrf 2).1
  have k3 : w9.cell? ⟨w.heap.size + 1, 3, none⟩ = some (.int .i64 o.b) := (cell_of_blk hrf 3).1
  have k4 : w9.cell? ⟨w.heap.size + 1, 4, none⟩ = some (.int .i64 o.c) := (cell_of_blk hrf 4).1
  have k5 : w9.cell? ⟨w.heap.size + 1, 5, none⟩ = some (.int .i64 o.imm) := (cell_of_blk hrf 5).1
  clear hrf r0 r1 r2 r3 r4 r5 t0 t1 t2 t3 t4 t5 d0 d1 d2 d3 d4 d5 f1 f2' f3 f4
  refine bodyPost_ret (v := .agg #[.int .i64 o.kind, .int .i64 o.dst, .int .i64 (cpOf f o.a), .int .i64 o.b, .int .i64 o.c, .int .i64 o.imm]) (by simp [results, Try.results27, go_sem, k0, k1, k2, k3, k4, k5]; try rfl) rfl ?_
  exact ⟨rfl, hbf⟩
set_option maxRecDepth 100000 in
set_option maxHeartbeats 4000000 in
theorem cop_op_2 (b m : Nat) (f : Int → Option Int) (o : Opn) (hf : o.fine) (hn : fSrc o.kind = 2) (w : World) (h : MapAt w b m f) :
    Calls Try.prog 27 #[.map (some b), .agg #[.int .i64 o.kind, .int .i64 o.dst, .int .i64 o.a, .int .i64 o.b, .int .i64 o.c, .int .i64 o.imm]] w (CopPost ⟨o.kind, o.dst, (cpOf f o.a), (cpOf f o.b), o.c, o.imm⟩ w) := by
  have HU := Lib.hid (fun W => ir_Uses o W)
  have HOF := Lib.hid (fun t ht W h => cop_of b m f t ht W h)
  obtain ⟨_, _, fa, fb, fc, _⟩ := hf
  have HFA := Lib.hid (intR_lit fa)
  have HFB := Lib.hid (intR_lit fb)
  have HFC := Lib.hid (intR_lit fc)
  unfold opVal at HU
  unfold CopPost opVal
  rw [hn] at HU
  have HM := Lib.hid h
  have e1 := alloc_size w (.cells #[.int .i64 o.kind, .int .i64 o.dst, .int .i64 o.a, .int .i64 o.b, .int .i64 o.c, .int .i64 o.imm] 41) rfl
  have hX := alloc_old (alloc_last w _ rfl (.cells #[.int .i64 o.kind, .int .i64 o.dst, .int .i64 o.a, .int .i64 o.b, .int .i64 o.c, .int .i64 o.imm] 41)) (.cells #[.int .i64 0, .int .i64 0, .int .i64 0, .int .i64 0, .int .i64 0, .int .i64 0] 41)
  have hR := alloc_last _ _ e1 (.cells #[.int .i64 0, .int .i64 0, .int .i64 0, .int .i64 0, .int .i64 0, .int .i64 0] 41)
  have hB := bal (bnew w (.cells #[.int .i64 o.kind, .int .i64 o.dst, .int .i64 o.a, .int .i64 o.b, .int .i64 o.c, .int .i64 o.imm] 41)) (.cells #[.int .i64 0, .int .i64 0, .int .i64 0, .int .i64 0, .int .i64 0, .int .i64 0] 41)
  have HML := Lib.hid h.lt
  clear h hn fa fb fc
  go_enter Try.func27, Try.ntmps27
  go_wp2_with fail
  generalize (w.alloc (.cells #[.int .i64 o.kind, .int .i64 o.dst, .int .i64 o.a, .int .i64 o.b, .int .i64 o.c, .int .i64 o.imm] 41)).alloc (.cells #[.int .i64 0, .int .i64 0, .int .i64 0, .int .i64 0, .int .i64 0, .int .i64 0] 41) = w1 at *
  refine (HU.out _).mono ?_
  rintro e w2 ⟨g, rfl, _, _, hb2⟩
  have hX2 := (hb2.block _ (lt_of_blk hX)).trans hX
  have hR2 := (hb2.block _ (lt_of_blk hR)).trans hR
  have HB2 := Lib.hid (bch hB hb2)
  have HM2 := Lib.hid (HM.out.below HB2.out)
  obtain ⟨d0, d1, d2, d3, d4, d5, f1, f2', f3, f4⟩ := op_cells_at hX2
  obtain ⟨r0, t0⟩ := cell_of_blk hR2 0
  obtain ⟨r1, t1⟩ := cell_of_blk hR2 1
  obtain ⟨r2, t2⟩ := cell_of_blk hR2 2
  obtain ⟨r3, t3⟩ := cell_of_blk hR2 3
  obtain ⟨r4, t4⟩ := cell_of_blk hR2 4
  obtain ⟨r5, t5⟩ := cell_of_blk hR2 5
  have HX2 := Lib.hid hX2
  have HR2 := Lib.hid hR2
  clear hX hR hB hb2 hX2 hR2 e1
  go_wp2_with fail
  refine (HOF.out o.a HFA.out _ (HM2.out)).mono ?_
  rintro e _ ⟨rfl, rfl⟩
  go_wp2_with fail
  refine (HOF.out o.b HFB.out _ ((HM2.out).setCell ⟨w.heap.size, 2, none⟩ (.int .i64 (cpOf f o.a)) (by have := HML.out; show w.heap.size ≠ b; omega))).mono ?_
  rintro e _ ⟨rfl, rfl⟩
  go_wp2_with fail
  have hrf := blk_set (blk_set (blk_set (blk_set (blk_set (blk_set (blk_far (blk_far (HR2.out) ⟨w.heap.size, 2, none⟩ (.int .i64 (cpOf f o.a)) (by show w.heap.size ≠ w.heap.size + 1; omega)) ⟨w.heap.size, 3, none⟩ (.int .i64 (cpOf f o.b)) (by show w.heap.size ≠ w.heap.size + 1; omega)) 0 (.int .i64 o.kind)) 1 (.int .i64 o.dst)) 2 (.int .i64 (cpOf f o.a))) 3 (.int .i64 (cpOf f o.b))) 4 (.int .i64 o.c)) 5 (.int .i64 o.imm)
  have hbf := ((((((((HB2.out).setCell (p := ⟨w.heap.size, 2, none⟩) (Nat.le_refl _) (.int .i64 (cpOf f o.a))).setCell (p := ⟨w.heap.size, 3, none⟩) (Nat.le_refl _) (.int .i64 (cpOf f o.b))).setCell (p := ⟨w.heap.size + 1, 0, none⟩) (by show w.heap.size ≤ w.heap.size + 1; omega) (.int .i64 o.kind)).setCell (p := ⟨w.heap.size + 1, 1, none⟩) (by show w.heap.size ≤ w.heap.size + 1; omega) (.int .i64 o.dst)).setCell (p := ⟨w.heap.size + 1, 2, none⟩) (by show w.heap.size ≤ w.heap.size + 1; omega) (.int .i64 (cpOf f o.a))).setCell (p := ⟨w.heap.size + 1, 3, none⟩) (by show w.heap.size ≤ w.heap.size + 1; omega) (.int .i64 (cpOf f o.b))).setCell (p := ⟨w.heap.size + 1, 4, none⟩) (by show w.heap.size ≤ w.heap.size + 1; omega) (.int .i64 o.c)).setCell (p := ⟨w.heap.size + 1, 5, none⟩) (by show w.heap.size ≤ w.heap.size + 1; omega) (.int .i64 o.imm)
  generalize (((((((w2.setCell ⟨w.heap.size, 2, none⟩ (.int .i64 (cpOf f o.a))).setCell ⟨w.heap.size, 3, none⟩ (.int .i64 (cpOf f o.b))).setCell ⟨w.heap.size + 1, 0, none⟩ (.int .i64 o.kind)).setCell ⟨w.heap.size + 1, 1, none⟩ (.int .i64 o.dst)).setCell ⟨w.heap.size + 1, 2, none⟩ (.int .i64 (cpOf f o.a))).setCell ⟨w.heap.size + 1, 3, none⟩ (.int .i64 (cpOf f o.b))).setCell ⟨w.heap.size + 1, 4, none⟩ (.int .i64 o.c)).setCell ⟨w.heap.size + 1, 5, none⟩ (.int .i64 o.imm) = w9 at *
  have k0 : w9.cell? ⟨w.heap.size + 1, 0, none⟩ = some (.int .i64 o.kind) := (cell_of_blk hrf 0).1
  have k1 : w9.cell? ⟨w.heap.size + 1, 1, none⟩ = some (.int .i64 o.dst) := (cell_of_blk hrf 1).1
  have k2 : w9.cell? ⟨w.heap.size + 1, 2, none⟩ = some (.int .i64 (cpOf f o.a)) := (cell_of_blk hrf 2).1
  have k3 : w9.cell? ⟨w.heap.size + 1, 3, none⟩ = some (.int .i64 (cpOf f o.b)) := (cell_of_blk hrf 3).1
  have k4 : w9.cell? ⟨w.heap.size + 1, 4, none⟩ = some (.int .i64 o.c) := (cell_of_blk hrf 4).1
  have k5 : w9.cell? ⟨w.heap.size + 1, 5, none⟩ = some (.int .i64 o.imm) := (cell_of_blk hrf 5).1
  clear hrf r0 r1 r2 r3 r4 r5 t0 t1 t2 t3 t4 t5 d0 d1 d2 d3 d4 d5 f1 f2' f3 f4
  refine bodyPost_ret (v := .agg #[.int .i64 o.kind, .int .i64 o.dst, .int .i64 (cpOf f o.a), .int .i64 (cpOf f o.b), .int .i64 o.c, .int .i64 o.imm]) (by simp [results, Try.results27, go_sem, k0, k1, k2, k3, k4, k5]; try rfl) rfl ?_
  exact ⟨rfl, hbf⟩
set_option maxRecDepth 100000 in
set_option maxHeartbeats 4000000 in
theorem cop_op_3 (b m : Nat) (f : Int → Option Int) (o : Opn) (hf : o.fine) (hn : fSrc o.kind = 3) (w : World) (h : MapAt w b m f) :
    Calls Try.prog 27 #[.map (some b), .agg #[.int .i64 o.kind, .int .i64 o.dst, .int .i64 o.a, .int .i64 o.b, .int .i64 o.c, .int .i64 o.imm]] w (CopPost ⟨o.kind, o.dst, (cpOf f o.a), (cpOf f o.b), (cpOf f o.c), o.imm⟩ w) := by
  have HU := Lib.hid (fun W => ir_Uses o W)
  have HOF := Lib.hid (fun t ht W h => cop_of b m f t ht W h)
  obtain ⟨_, _, fa, fb, fc, _⟩ := hf
  have HFA := Lib.hid (intR_lit fa)
  have HFB := Lib.hid (intR_lit fb)
  have HFC := Lib.hid (intR_lit fc)
  unfold opVal at HU
  unfold CopPost opVal
  rw [hn] at HU
  have HM := Lib.hid h
  have e1 := alloc_size w (.cells #[.int .i64 o.kind, .int .i64 o.dst, .int .i64 o.a, .int .i64 o.b, .int .i64 o.c, .int .i64 o.imm] 41) rfl
  have hX := alloc_old (alloc_last w _ rfl (.cells #[.int .i64 o.kind, .int .i64 o.dst, .int .i64 o.a, .int .i64 o.b, .int .i64 o.c, .int .i64 o.imm] 41)) (.cells #[.int .i64 0, .int .i64 0, .int .i64 0, .int .i64 0, .int .i64 0, .int .i64 0] 41)
  have hR := alloc_last _ _ e1 (.cells #[.int .i64 0, .int .i64 0, .int .i64 0, .int .i64 0, .int .i64 0, .int .i64 0] 41)
  have hB := bal (bnew w (.cells #[.int .i64 o.kind, .int .i64 o.dst, .int .i64 o.a, .int .i64 o.b, .int .i64 o.c, .int .i64 o.imm] 41)) (.cells #[.int .i64 0, .int .i64 0, .int .i64 0, .int .i64 0, .int .i64 0, .int .i64 0] 41)
  have HML := Lib.hid h.lt
  clear h hn fa fb fc
  go_enter Try.func27, Try.ntmps27
  go_wp2_with fail
  generalize (w.alloc (.cells #[.int .i64 o.kind, .int .i64 o.dst, .int .i64 o.a, .int .i64 o.b, .int .i64 o.c, .int .i64 o.imm] 41)).alloc (.cells #[.int .i64 0, .int .i64 0, .int .i64 0, .int .i64 0, .int .i64 0, .int .i64 0] 41) = w1 at *
  refine (HU.out _).mono ?_
  rintro e w2 ⟨g, rfl, _, _, hb2⟩
  have hX2 := (hb2.block _ (lt_of_blk hX)).trans hX
  have hR2 := (hb2.block _ (lt_of_blk hR)).trans hR
  have HB2 := Lib.hid (bch hB hb2)
  have HM2 := Lib.hid (HM.out.below HB2.out)
  obtain ⟨d0, d1, d2, d3, d4, d5, f1, f2', f3, f4⟩ := op_cells_at hX2
  obtain ⟨r0, t0⟩ := cell_of_blk hR2 0
  obtain ⟨r1, t1⟩ := cell_of_blk hR2 1
  obtain ⟨r2, t2⟩ := cell_of_blk hR2 2
  obtain ⟨r3, t3⟩ := cell_of_blk hR2 3
  obtain ⟨r4, t4⟩ := cell_of_blk hR2 4
  obtain ⟨r5, t5⟩ := cell_of_blk hR2 5
  have HX2 := Lib.hid hX2
  have HR2 := Lib.hid hR2
  clear hX hR hB hb2 hX2 hR2 e1
  go_wp2_with fail
  refine (HOF.out o.a HFA.out _ (HM2.out)).mono ?_
  rintro e _ ⟨rfl, rfl⟩
  go_wp2_with fail
  refine (HOF.out o.b HFB.out _ ((HM2.out).setCell ⟨w.heap.size, 2, none⟩ (.int .i64 (cpOf f o.a)) (by have := HML.out; show w.heap.size ≠ b; omega))).mono ?_
  rintro e _ ⟨rfl, rfl⟩
  go_wp2_with fail
  refine (HOF.out o.c HFC.out _ (((HM2.out).setCell ⟨w.heap.size, 2, none⟩ (.int .i64 (cpOf f o.a)) (by have := HML.out; show w.heap.size ≠ b; omega)).setCell ⟨w.heap.size, 3, none⟩ (.int .i64 (cpOf f o.b)) (by have := HML.out; show w.heap.size ≠ b; omega))).mono ?_
  rintro e _ ⟨rfl, rfl⟩
  go_wp2_with fail
  have hrf := blk_set (blk_set (blk_set (blk_set (blk_set (blk_set (blk_far (blk_far (blk_far (HR2.out) ⟨w.heap.size, 2, none⟩ (.int .i64 (cpOf f o.a)) (by show w.heap.size ≠ w.heap.size + 1; omega)) ⟨w.heap.size, 3, none⟩ (.int .i64 (cpOf f o.b)) (by show w.heap.size ≠ w.heap.size + 1; omega)) ⟨w.heap.size, 4, none⟩ (.int .i64 (cpOf f o.c)) (by show w.heap.size ≠ w.heap.size + 1; omega)) 0 (.int .i64 o.kind)) 1 (.int .i64 o.dst)) 2 (.int .i64 (cpOf f o.a))) 3 (.int .i64 (cpOf f o.b))) 4 (.int .i64 (cpOf f o.c))) 5 (.int .i64 o.imm)
  have hbf := (((((((((HB2.out).setCell (p := ⟨w.heap.size, 2, none⟩) (Nat.le_refl _) (.int .i64 (cpOf f o.a))).setCell (p := ⟨w.heap.size, 3, none⟩) (Nat.le_refl _) (.int .i64 (cpOf f o.b))).setCell (p := ⟨w.heap.size, 4, none⟩) (Nat.le_refl _) (.int .i64 (cpOf f o.c))).setCell (p := ⟨w.heap.size + 1, 0, none⟩) (by show w.heap.size ≤ w.heap.size + 1; omega) (.int .i64 o.kind)).setCell (p := ⟨w.heap.size + 1, 1, none⟩) (by show w.heap.size ≤ w.heap.size + 1; omega) (.int .i64 o.dst)).setCell (p := ⟨w.heap.size + 1, 2, none⟩) (by show w.heap.size ≤ w.heap.size + 1; omega) (.int .i64 (cpOf f o.a))).setCell (p := ⟨w.heap.size + 1, 3, none⟩) (by show w.heap.size ≤ w.heap.size + 1; omega) (.int .i64 (cpOf f o.b))).setCell (p := ⟨w.heap.size + 1, 4, none⟩) (by show w.heap.size ≤ w.heap.size + 1; omega) (.int .i64 (cpOf f o.c))).setCell (p := ⟨w.heap.size + 1, 5, none⟩) (by show w.heap.size ≤ w.heap.size + 1; omega) (.int .i64 o.imm)
  generalize ((((((((w2.setCell ⟨w.heap.size, 2, none⟩ (.int .i64 (cpOf f o.a))).setCell ⟨w.heap.size, 3, none⟩ (.int .i64 (cpOf f o.b))).setCell ⟨w.heap.size, 4, none⟩ (.int .i64 (cpOf f o.c))).setCell ⟨w.heap.size + 1, 0, none⟩ (.int .i64 o.kind)).setCell ⟨w.heap.size + 1, 1, none⟩ (.int .i64 o.dst)).setCell ⟨w.heap.size + 1, 2, none⟩ (.int .i64 (cpOf f o.a))).setCell ⟨w.heap.size + 1, 3, none⟩ (.int .i64 (cpOf f o.b))).setCell ⟨w.heap.size + 1, 4, none⟩ (.int .i64 (cpOf f o.c))).setCell ⟨w.heap.size + 1, 5, none⟩ (.int .i64 o.imm) = w9 at *
  have k0 : w9.cell? ⟨w.heap.size + 1, 0, none⟩ = some (.int .i64 o.kind) := (cell_of_blk hrf 0).1
  have k1 : w9.cell? ⟨w.heap.size + 1, 1, none⟩ = some (.int .i64 o.dst) := (cell_of_blk hrf 1).1
  have k2 : w9.cell? ⟨w.heap.size + 1, 2, none⟩ = some (.int .i64 (cpOf f o.a)) := (cell_of_blk hrf 2).1
  have k3 : w9.cell? ⟨w.heap.size + 1, 3, none⟩ = some (.int .i64 (cpOf f o.b)) := (cell_of_blk hrf 3).1
  have k4 : w9.cell? ⟨w.heap.size + 1, 4, none⟩ = some (.int .i64 (cpOf f o.c)) := (cell_of_blk hrf 4).1
  have k5 : w9.cell? ⟨w.heap.size + 1, 5, none⟩ = some (.int .i64 o.imm) := (cell_of_blk hrf 5).1
  clear hrf r0 r1 r2 r3 r4 r5 t0 t1 t2 t3 t4 t5 d0 d1 d2 d3 d4 d5 f1 f2' f3 f4
  refine bodyPost_ret (v := .agg #[.int .i64 o.kind, .int .i64 o.dst, .int .i64 (cpOf f o.a), .int .i64 (cpOf f o.b), .int .i64 (cpOf f o.c), .int .i64 o.imm]) (by simp [results, Try.results27, go_sem, k0, k1, k2, k3, k4, k5]; try rfl) rfl ?_
  exact ⟨rfl, hbf⟩
theorem cop_op (b m : Nat) (f : Int → Option Int) (o : Opn) (hf : o.fine) (w : World) (h : MapAt w b m f) : Calls Try.prog 27 #[.map (some b), opVal o] w (CopPost (cpOp f o) w) := by
  have h3 := fSrc_le o.kind
  have e : fSrc o.kind = 0 ∨ fSrc o.kind = 1 ∨ fSrc o.kind = 2 ∨ fSrc o.kind = 3 := by omega
  unfold cpOp
  rcases e with e | e | e | e <;> rw [e]
  · exact cop_op_0 b m f o hf e w h
  · exact cop_op_1 b m f o hf e w h
  · exact cop_op_2 b m f o hf e w h
  · exact cop_op_3 b m f o hf e w h
end Go.Proofs.Ytfadeipdepamlaa
