/- Parts of a proof. No condition but those that each theorem names. -/
import Derived.WalkKit
import Derived.OpenShut
import Derived.Below
import Derived.Lib.Hide
import Derived.Laws.OwnMore
import Derived.Deep.QuietTactic
import Derived.Deep.AppendLies
import Derived.ProofKit
import Derived.SizedLaws
import Derived.Test.YtfadeipdepamlaaProg
import Derived.Handy
import Derived.Deep.RegionHeld3
import Derived.BigQuiet
import Derived.Maps.AppendAt
import Derived.Maps.RangeWalk
import Derived.Maps.OwnSet
import Derived.StillTailTactics
import Derived.Laws.CopyOwn
import Derived.Lib.BufferWrite
import Derived.OrdersHeld
import Derived.RegionTactic
import Derived.Deep.DeepCutAuto
import Derived.Test.YtfadeipdepamlaaSeG0e0
import Derived.Test.YtfadeipdepamlaaSeG0e1
import Derived.Test.YtfadeipdepamlaaSeG0e2
import Derived.Test.YtfadeipdepamlaaSeG0e4
import Derived.Test.YtfadeipdepamlaaSeIrC
import Derived.Test.YtfadeipdepamlaaSeG1e5
import Derived.Test.YtfadeipdepamlaaSeG1e6
import Derived.Test.YtfadeipdepamlaaSeG0e11
import Derived.Test.YtfadeipdepamlaaSeG1e13
import Derived.Test.YtfadeipdepamlaaSeG1e14
import Derived.Test.YtfadeipdepamlaaSeFoldM
import Derived.Test.YtfadeipdepamlaaSeFoldA
import Derived.Test.YtfadeipdepamlaaSeFoldB
import Derived.Test.YtfadeipdepamlaaSeFoldC
import Derived.Test.YtfadeipdepamlaaSeFoldC2
namespace Go.Proofs.Ytfadeipdepamlaa
open Go.RowKit Go.Maps
set_option linter.unusedVariables false
theorem fold_one (F b n : Nat) (f : Int → Option Int) (o : Opn) (hf : o.fine) (w : World) (h : FoAt w F b n f) :
    Calls Try.prog 56 #[.pointer (some ⟨F, 0, none⟩), opVal o] w (OptPost (fdOne f o) o w) := by
  by_cases h3 : o.kind = 3
  · exact fold_one_3 F b n f o hf w h h3
  by_cases h8 : o.kind = 8
  · exact fold_one_8 F b n f o hf w h h8
  by_cases h9 : o.kind = 9
  · exact fold_one_9 F b n f o hf w h h9
  by_cases h5 : o.kind = 5
  · exact fold_one_5 F b n f o hf w h h5
  by_cases h7 : o.kind = 7
  · exact fold_one_7 F b n f o hf w h h7
  by_cases h4 : o.kind = 4
  · exact fold_one_4 F b n f o hf w h h4
  by_cases h11 : o.kind = 11
  · exact fold_one_11 F b n f o hf w h h11
  by_cases h12 : o.kind = 12
  · exact fold_one_12 F b n f o hf w h h12
  by_cases h13 : o.kind = 13
  · exact fold_one_13 F b n f o hf w h h13
  by_cases h17 : o.kind = 17
  · exact fold_one_17 F b n f o hf w h h17
  exact fold_one_no F b n f o hf w h ⟨h3, h8, h9, h5, h7, h4, h11, h12, h13, h17⟩
set_option maxRecDepth 100000 in
set_option maxHeartbeats 4000000 in
theorem fold_op (F b n : Nat) (f : Int → Option Int) (o : Opn) (hf : o.fine) (w : World) (h : FoAt w F b n f) :
    Calls Try.prog 38 #[.pointer (some ⟨F, 0, none⟩), opVal o] w (CopPost (fdOp f o) w) := by
  have HN := Lib.hid (fun m W => fold_number o m W)
  have HRK := Lib.hid (fun W h => fold_reckoned F b n f o hf W h)
  have HON := Lib.hid (fun W h => fold_one F b n f o hf W h)
  have HSM := Lib.hid (fun W h => fold_same F b n f o hf W h)
  unfold CopPost opVal at HN HSM
  unfold OptPost opVal at HON
  unfold ReckPost at HRK
  unfold opVal at HRK
  generalize hPO : CopPost (fdOp f o) w = PO
  have HPO := Lib.hid hPO
  unfold opVal
  have e1 := alloc_size w (.cells #[.int .i64 o.kind, .int .i64 o.dst, .int .i64 o.a, .int .i64 o.b, .int .i64 o.c, .int .i64 o.imm] 41) rfl
  have hX := alloc_old (alloc_last w _ rfl (.cells #[.int .i64 o.kind, .int .i64 o.dst, .int .i64 o.a, .int .i64 o.b, .int .i64 o.c, .int .i64 o.imm] 41)) (.cells #[.int .i64 0, .int .i64 0, .int .i64 0, .int .i64 0, .int .i64 0, .int .i64 0] 41)
  have hR := alloc_last _ _ e1 (.cells #[.int .i64 0, .int .i64 0, .int .i64 0, .int .i64 0, .int .i64 0, .int .i64 0] 41)
  have hB := bal (bnew w (.cells #[.int .i64 o.kind, .int .i64 o.dst, .int .i64 o.a, .int .i64 o.b, .int .i64 o.c, .int .i64 o.imm] 41)) (.cells #[.int .i64 0, .int .i64 0, .int .i64 0, .int .i64 0, .int .i64 0, .int .i64 0] 41)
  have HF := Lib.hid (h.below hB)
  clear h hf hPO
  cases hr : fdReck f o with
  | some m =>
    rw [hr] at HRK
    simp only [Option.getD_some, Option.isSome_some] at HRK
    have hoe : fdOp f o = fdNum o m := by unfold fdOp; rw [hr]
    clear hr
    go_enter Try.func38, Try.ntmps38
    go_upto_region 1 with (fail)
    generalize (w.alloc (.cells #[.int .i64 o.kind, .int .i64 o.dst, .int .i64 o.a, .int .i64 o.b, .int .i64 o.c, .int .i64 o.imm] 41)).alloc (.cells #[.int .i64 0, .int .i64 0, .int .i64 0, .int .i64 0, .int .i64 0, .int .i64 0] 41) = w1 at *
    have HX := Lib.hid hX
    have HR := Lib.hid hR
    have HB := Lib.hid hB
    clear hX hR hB e1
    obtain ⟨c0, c1, c2, c3, c4, c5, _, _, _, _⟩ := op_cells_at HX.out
    go_wp2_with fail
    refine (HRK.out _ HF.out).mono ?_
    rintro e w2 ⟨rfl, hb⟩
    have hX' := (hb.block _ (lt_of_blk HX.out)).trans HX.out
    have hR' := (hb.block _ (lt_of_blk HR.out)).trans HR.out
    have hB' := bch HB.out hb
    have HX := Lib.hid hX'
    have HR := Lib.hid hR'
    have HB := Lib.hid hB'
    clear hX' hR' hB' hb
    clear c0 c1 c2 c3 c4 c5
    obtain ⟨c0, c1, c2, c3, c4, c5, _, _, _, _⟩ := op_cells_at HX.out
    replace HN := Lib.hid (HN.out m)
    have HPP : Hid (∀ w', Below w.heap.size w w' → PO (.returned (.agg #[.int .i64 (fdNum o m).kind, .int .i64 (fdNum o m).dst, .int .i64 (fdNum o m).a, .int .i64 (fdNum o m).b, .int .i64 (fdNum o m).c, .int .i64 (fdNum o m).imm])) w') := Lib.hid (fun w' hb => by rw [← HPO.out, hoe]; exact ⟨rfl, hb⟩)
    clear hoe
    generalize fdNum o m = q at *
    go_wp2_with fail
    refine (HN.out _).mono ?_
    rintro e w3 ⟨rfl, hb⟩
    have hX' := (hb.block _ (lt_of_blk HX.out)).trans HX.out
    have hR' := (hb.block _ (lt_of_blk HR.out)).trans HR.out
    have hB' := bch HB.out hb
    have HX := Lib.hid hX'
    have HR := Lib.hid hR'
    have HB := Lib.hid hB'
    clear hX' hR' hB' hb
    clear c0 c1 c2 c3 c4 c5
    obtain ⟨r0, s0⟩ := cell_of_blk HR.out 0
    obtain ⟨r1, s1⟩ := cell_of_blk HR.out 1
    obtain ⟨r2, s2⟩ := cell_of_blk HR.out 2
    obtain ⟨r3, s3⟩ := cell_of_blk HR.out 3
    obtain ⟨r4, s4⟩ := cell_of_blk HR.out 4
    obtain ⟨r5, s5⟩ := cell_of_blk HR.out 5
    go_wp2_with fail
    have hr7 := (blk_set (blk_set (blk_set (blk_set (blk_set (blk_set HR.out 0 (.int .i64 q.kind)) 1 (.int .i64 q.dst)) 2 (.int .i64 q.a)) 3 (.int .i64 q.b)) 4 (.int .i64 q.c)) 5 (.int .i64 q.imm))
    have hB7 := ((((((HB.out.setCell (p := ⟨w.heap.size + 1, 0, none⟩) (by show w.heap.size ≤ w.heap.size + 1; omega) (.int .i64 q.kind)).setCell (p := ⟨w.heap.size + 1, 1, none⟩) (by show w.heap.size ≤ w.heap.size + 1; omega) (.int .i64 q.dst)).setCell (p := ⟨w.heap.size + 1, 2, none⟩) (by show w.heap.size ≤ w.heap.size + 1; omega) (.int .i64 q.a)).setCell (p := ⟨w.heap.size + 1, 3, none⟩) (by show w.heap.size ≤ w.heap.size + 1; omega) (.int .i64 q.b)).setCell (p := ⟨w.heap.size + 1, 4, none⟩) (by show w.heap.size ≤ w.heap.size + 1; omega) (.int .i64 q.c)).setCell (p := ⟨w.heap.size + 1, 5, none⟩) (by show w.heap.size ≤ w.heap.size + 1; omega) (.int .i64 q.imm))
    generalize ((((((w3.setCell ⟨w.heap.size + 1, 0, none⟩ (.int .i64 q.kind)).setCell ⟨w.heap.size + 1, 1, none⟩ (.int .i64 q.dst)).setCell ⟨w.heap.size + 1, 2, none⟩ (.int .i64 q.a)).setCell ⟨w.heap.size + 1, 3, none⟩ (.int .i64 q.b)).setCell ⟨w.heap.size + 1, 4, none⟩ (.int .i64 q.c)).setCell ⟨w.heap.size + 1, 5, none⟩ (.int .i64 q.imm)) = w7 at *
    have k0 : w7.cell? ⟨w.heap.size + 1, 0, none⟩ = some (.int .i64 q.kind) := (cell_of_blk hr7 0).1
    have k1 : w7.cell? ⟨w.heap.size + 1, 1, none⟩ = some (.int .i64 q.dst) := (cell_of_blk hr7 1).1
    have k2 : w7.cell? ⟨w.heap.size + 1, 2, none⟩ = some (.int .i64 q.a) := (cell_of_blk hr7 2).1
    have k3 : w7.cell? ⟨w.heap.size + 1, 3, none⟩ = some (.int .i64 q.b) := (cell_of_blk hr7 3).1
    have k4 : w7.cell? ⟨w.heap.size + 1, 4, none⟩ = some (.int .i64 q.c) := (cell_of_blk hr7 4).1
    have k5 : w7.cell? ⟨w.heap.size + 1, 5, none⟩ = some (.int .i64 q.imm) := (cell_of_blk hr7 5).1
    clear hr7 r0 r1 r2 r3 r4 r5 s0 s1 s2 s3 s4 s5
    refine bodyPost_ret (v := .agg #[.int .i64 q.kind, .int .i64 q.dst, .int .i64 q.a, .int .i64 q.b, .int .i64 q.c, .int .i64 q.imm]) (by simp [results, Try.results38, go_sem, k0, k1, k2, k3, k4, k5]; try rfl) rfl ?_
    exact HPP.out _ hB7
  | none =>
    rw [hr] at HRK
    simp only [Option.getD_none, Option.isSome_none] at HRK
    cases h1 : fdOne f o with
    | some x =>
      rw [h1] at HON
      simp only [Option.getD_some, Option.isSome_some] at HON
      have hoe : fdOp f o = x := by unfold fdOp; rw [hr, h1]
      clear hr h1
      go_enter Try.func38, Try.ntmps38
      go_upto_region 1 with (fail)
      generalize (w.alloc (.cells #[.int .i64 o.kind, .int .i64 o.dst, .int .i64 o.a, .int .i64 o.b, .int .i64 o.c, .int .i64 o.imm] 41)).alloc (.cells #[.int .i64 0, .int .i64 0, .int .i64 0, .int .i64 0, .int .i64 0, .int .i64 0] 41) = w1 at *
      have HX := Lib.hid hX
      have HR := Lib.hid hR
      have HB := Lib.hid hB
      clear hX hR hB e1
      obtain ⟨c0, c1, c2, c3, c4, c5, _, _, _, _⟩ := op_cells_at HX.out
      go_wp2_with fail
      refine (HRK.out _ HF.out).mono ?_
      rintro e w2 ⟨rfl, hb⟩
      have HF := Lib.hid (HF.out.below hb)
      have hX' := (hb.block _ (lt_of_blk HX.out)).trans HX.out
      have hR' := (hb.block _ (lt_of_blk HR.out)).trans HR.out
      have hB' := bch HB.out hb
      have HX := Lib.hid hX'
      have HR := Lib.hid hR'
      have HB := Lib.hid hB'
      clear hX' hR' hB' hb
      clear c0 c1 c2 c3 c4 c5
      obtain ⟨c0, c1, c2, c3, c4, c5, _, _, _, _⟩ := op_cells_at HX.out
      go_wp2_with fail
      refine (HON.out _ HF.out).mono ?_
      rintro e w3 ⟨rfl, hb⟩
      have HF := Lib.hid (HF.out.below hb)
      have hX' := (hb.block _ (lt_of_blk HX.out)).trans HX.out
      have hR' := (hb.block _ (lt_of_blk HR.out)).trans HR.out
      have hB' := bch HB.out hb
      have HX := Lib.hid hX'
      have HR := Lib.hid hR'
      have HB := Lib.hid hB'
      clear hX' hR' hB' hb
      have hx7 := heap_alloc_new w3 (.cells #[.int .i64 x.kind, .int .i64 x.dst, .int .i64 x.a, .int .i64 x.b, .int .i64 x.c, .int .i64 x.imm] 41)
      have hb := bnew w3 (.cells #[.int .i64 x.kind, .int .i64 x.dst, .int .i64 x.a, .int .i64 x.b, .int .i64 x.c, .int .i64 x.imm] 41)
      have HF := Lib.hid (HF.out.below hb)
      have hX' := (hb.block _ (lt_of_blk HX.out)).trans HX.out
      have hR' := (hb.block _ (lt_of_blk HR.out)).trans HR.out
      have hB' := bch HB.out hb
      have HX := Lib.hid hX'
      have HR := Lib.hid hR'
      have HB := Lib.hid hB'
      clear hX' hR' hB' hb
      clear c0 c1 c2 c3 c4 c5
      go_upto_region 5 with (fail)
      generalize w3.alloc (.cells #[.int .i64 x.kind, .int .i64 x.dst, .int .i64 x.a, .int .i64 x.b, .int .i64 x.c, .int .i64 x.imm] 41) = w4 at *
      obtain ⟨x0, x1, x2, x3, x4, x5, _, _, _, _⟩ := op_cells_at hx7
      have HPP : Hid (∀ w', Below w.heap.size w w' → PO (.returned (.agg #[.int .i64 x.kind, .int .i64 x.dst, .int .i64 x.a, .int .i64 x.b, .int .i64 x.c, .int .i64 x.imm])) w') := Lib.hid (fun w' hb => by rw [← HPO.out, hoe]; exact ⟨rfl, hb⟩)
      clear hoe hx7
      obtain ⟨r0, s0⟩ := cell_of_blk HR.out 0
      obtain ⟨r1, s1⟩ := cell_of_blk HR.out 1
      obtain ⟨r2, s2⟩ := cell_of_blk HR.out 2
      obtain ⟨r3, s3⟩ := cell_of_blk HR.out 3
      obtain ⟨r4, s4⟩ := cell_of_blk HR.out 4
      obtain ⟨r5, s5⟩ := cell_of_blk HR.out 5
      go_wp2_with fail
      clear x0 x1 x2 x3 x4 x5
      have hr7 := (blk_set (blk_set (blk_set (blk_set (blk_set (blk_set HR.out 0 (.int .i64 x.kind)) 1 (.int .i64 x.dst)) 2 (.int .i64 x.a)) 3 (.int .i64 x.b)) 4 (.int .i64 x.c)) 5 (.int .i64 x.imm))
      have hB7 := ((((((HB.out.setCell (p := ⟨w.heap.size + 1, 0, none⟩) (by show w.heap.size ≤ w.heap.size + 1; omega) (.int .i64 x.kind)).setCell (p := ⟨w.heap.size + 1, 1, none⟩) (by show w.heap.size ≤ w.heap.size + 1; omega) (.int .i64 x.dst)).setCell (p := ⟨w.heap.size + 1, 2, none⟩) (by show w.heap.size ≤ w.heap.size + 1; omega) (.int .i64 x.a)).setCell (p := ⟨w.heap.size + 1, 3, none⟩) (by show w.heap.size ≤ w.heap.size + 1; omega) (.int .i64 x.b)).setCell (p := ⟨w.heap.size + 1, 4, none⟩) (by show w.heap.size ≤ w.heap.size + 1; omega) (.int .i64 x.c)).setCell (p := ⟨w.heap.size + 1, 5, none⟩) (by show w.heap.size ≤ w.heap.size + 1; omega) (.int .i64 x.imm))
      generalize ((((((w4.setCell ⟨w.heap.size + 1, 0, none⟩ (.int .i64 x.kind)).setCell ⟨w.heap.size + 1, 1, none⟩ (.int .i64 x.dst)).setCell ⟨w.heap.size + 1, 2, none⟩ (.int .i64 x.a)).setCell ⟨w.heap.size + 1, 3, none⟩ (.int .i64 x.b)).setCell ⟨w.heap.size + 1, 4, none⟩ (.int .i64 x.c)).setCell ⟨w.heap.size + 1, 5, none⟩ (.int .i64 x.imm)) = w7 at *
      have k0 : w7.cell? ⟨w.heap.size + 1, 0, none⟩ = some (.int .i64 x.kind) := (cell_of_blk hr7 0).1
      have k1 : w7.cell? ⟨w.heap.size + 1, 1, none⟩ = some (.int .i64 x.dst) := (cell_of_blk hr7 1).1
      have k2 : w7.cell? ⟨w.heap.size + 1, 2, none⟩ = some (.int .i64 x.a) := (cell_of_blk hr7 2).1
      have k3 : w7.cell? ⟨w.heap.size + 1, 3, none⟩ = some (.int .i64 x.b) := (cell_of_blk hr7 3).1
      have k4 : w7.cell? ⟨w.heap.size + 1, 4, none⟩ = some (.int .i64 x.c) := (cell_of_blk hr7 4).1
      have k5 : w7.cell? ⟨w.heap.size + 1, 5, none⟩ = some (.int .i64 x.imm) := (cell_of_blk hr7 5).1
      clear hr7 r0 r1 r2 r3 r4 r5 s0 s1 s2 s3 s4 s5
      refine bodyPost_ret (v := .agg #[.int .i64 x.kind, .int .i64 x.dst, .int .i64 x.a, .int .i64 x.b, .int .i64 x.c, .int .i64 x.imm]) (by simp [results, Try.results38, go_sem, k0, k1, k2, k3, k4, k5]; try rfl) rfl ?_
      exact HPP.out _ hB7
    | none =>
      rw [h1] at HON
      simp only [Option.getD_none, Option.isSome_none] at HON
      have hoe : fdOp f o = fdSame f o := by unfold fdOp; rw [hr, h1]
      clear hr h1
      go_enter Try.func38, Try.ntmps38
      go_upto_region 1 with (fail)
      generalize (w.alloc (.cells #[.int .i64 o.kind, .int .i64 o.dst, .int .i64 o.a, .int .i64 o.b, .int .i64 o.c, .int .i64 o.imm] 41)).alloc (.cells #[.int .i64 0, .int .i64 0, .int .i64 0, .int .i64 0, .int .i64 0, .int .i64 0] 41) = w1 at *
      have HX := Lib.hid hX
      have HR := Lib.hid hR
      have HB := Lib.hid hB
      clear hX hR hB e1
      obtain ⟨c0, c1, c2, c3, c4, c5, _, _, _, _⟩ := op_cells_at HX.out
      go_wp2_with fail
      refine (HRK.out _ HF.out).mono ?_
      rintro e w2 ⟨rfl, hb⟩
      have HF := Lib.hid (HF.out.below hb)
      have hX' := (hb.block _ (lt_of_blk HX.out)).trans HX.out
      have hR' := (hb.block _ (lt_of_blk HR.out)).trans HR.out
      have hB' := bch HB.out hb
      have HX := Lib.hid hX'
      have HR := Lib.hid hR'
      have HB := Lib.hid hB'
      clear hX' hR' hB' hb
      clear c0 c1 c2 c3 c4 c5
      obtain ⟨c0, c1, c2, c3, c4, c5, _, _, _, _⟩ := op_cells_at HX.out
      go_wp2_with fail
      refine (HON.out _ HF.out).mono ?_
      rintro e w3 ⟨rfl, hb⟩
      have HF := Lib.hid (HF.out.below hb)
      have hX' := (hb.block _ (lt_of_blk HX.out)).trans HX.out
      have hR' := (hb.block _ (lt_of_blk HR.out)).trans HR.out
      have hB' := bch HB.out hb
      have HX := Lib.hid hX'
      have HR := Lib.hid hR'
      have HB := Lib.hid hB'
      clear hX' hR' hB' hb
      have hx7 := heap_alloc_new w3 (.cells #[.int .i64 o.kind, .int .i64 o.dst, .int .i64 o.a, .int .i64 o.b, .int .i64 o.c, .int .i64 o.imm] 41)
      have hb := bnew w3 (.cells #[.int .i64 o.kind, .int .i64 o.dst, .int .i64 o.a, .int .i64 o.b, .int .i64 o.c, .int .i64 o.imm] 41)
      have HF := Lib.hid (HF.out.below hb)
      have hX' := (hb.block _ (lt_of_blk HX.out)).trans HX.out
      have hR' := (hb.block _ (lt_of_blk HR.out)).trans HR.out
      have hB' := bch HB.out hb
      have HX := Lib.hid hX'
      have HR := Lib.hid hR'
      have HB := Lib.hid hB'
      clear hX' hR' hB' hb
      clear c0 c1 c2 c3 c4 c5
      go_upto_region 5 with (fail)
      generalize w3.alloc (.cells #[.int .i64 o.kind, .int .i64 o.dst, .int .i64 o.a, .int .i64 o.b, .int .i64 o.c, .int .i64 o.imm] 41) = w4 at *
      clear hx7
      obtain ⟨c0, c1, c2, c3, c4, c5, _, _, _, _⟩ := op_cells_at HX.out
      have HPP : Hid (∀ w', Below w.heap.size w w' → PO (.returned (.agg #[.int .i64 (fdSame f o).kind, .int .i64 (fdSame f o).dst, .int .i64 (fdSame f o).a, .int .i64 (fdSame f o).b, .int .i64 (fdSame f o).c, .int .i64 (fdSame f o).imm])) w') := Lib.hid (fun w' hb => by rw [← HPO.out, hoe]; exact ⟨rfl, hb⟩)
      clear hoe
      generalize fdSame f o = q at *
      go_wp2_with fail
      refine (HSM.out _ HF.out).mono ?_
      rintro e w5 ⟨rfl, hb⟩
      have hX' := (hb.block _ (lt_of_blk HX.out)).trans HX.out
      have hR' := (hb.block _ (lt_of_blk HR.out)).trans HR.out
      have hB' := bch HB.out hb
      have HX := Lib.hid hX'
      have HR := Lib.hid hR'
      have HB := Lib.hid hB'
      clear hX' hR' hB' hb
      clear c0 c1 c2 c3 c4 c5
      obtain ⟨r0, s0⟩ := cell_of_blk HR.out 0
      obtain ⟨r1, s1⟩ := cell_of_blk HR.out 1
      obtain ⟨r2, s2⟩ := cell_of_blk HR.out 2
      obtain ⟨r3, s3⟩ := cell_of_blk HR.out 3
      obtain ⟨r4, s4⟩ := cell_of_blk HR.out 4
      obtain ⟨r5, s5⟩ := cell_of_blk HR.out 5
      go_wp2_with fail
      have hr7 := (blk_set (blk_set (blk_set (blk_set (blk_set (blk_set HR.out 0 (.int .i64 q.kind)) 1 (.int .i64 q.dst)) 2 (.int .i64 q.a)) 3 (.int .i64 q.b)) 4 (.int .i64 q.c)) 5 (.int .i64 q.imm))
      have hB7 := ((((((HB.out.setCell (p := ⟨w.heap.size + 1, 0, none⟩) (by show w.heap.size ≤ w.heap.size + 1; omega) (.int .i64 q.kind)).setCell (p := ⟨w.heap.size + 1, 1, none⟩) (by show w.heap.size ≤ w.heap.size + 1; omega) (.int .i64 q.dst)).setCell (p := ⟨w.heap.size + 1, 2, none⟩) (by show w.heap.size ≤ w.heap.size + 1; omega) (.int .i64 q.a)).setCell (p := ⟨w.heap.size + 1, 3, none⟩) (by show w.heap.size ≤ w.heap.size + 1; omega) (.int .i64 q.b)).setCell (p := ⟨w.heap.size + 1, 4, none⟩) (by show w.heap.size ≤ w.heap.size + 1; omega) (.int .i64 q.c)).setCell (p := ⟨w.heap.size + 1, 5, none⟩) (by show w.heap.size ≤ w.heap.size + 1; omega) (.int .i64 q.imm))
      generalize ((((((w5.setCell ⟨w.heap.size + 1, 0, none⟩ (.int .i64 q.kind)).setCell ⟨w.heap.size + 1, 1, none⟩ (.int .i64 q.dst)).setCell ⟨w.heap.size + 1, 2, none⟩ (.int .i64 q.a)).setCell ⟨w.heap.size + 1, 3, none⟩ (.int .i64 q.b)).setCell ⟨w.heap.size + 1, 4, none⟩ (.int .i64 q.c)).setCell ⟨w.heap.size + 1, 5, none⟩ (.int .i64 q.imm)) = w7 at *
      have k0 : w7.cell? ⟨w.heap.size + 1, 0, none⟩ = some (.int .i64 q.kind) := (cell_of_blk hr7 0).1
      have k1 : w7.cell? ⟨w.heap.size + 1, 1, none⟩ = some (.int .i64 q.dst) := (cell_of_blk hr7 1).1
      have k2 : w7.cell? ⟨w.heap.size + 1, 2, none⟩ = some (.int .i64 q.a) := (cell_of_blk hr7 2).1
      have k3 : w7.cell? ⟨w.heap.size + 1, 3, none⟩ = some (.int .i64 q.b) := (cell_of_blk hr7 3).1
      have k4 : w7.cell? ⟨w.heap.size + 1, 4, none⟩ = some (.int .i64 q.c) := (cell_of_blk hr7 4).1
      have k5 : w7.cell? ⟨w.heap.size + 1, 5, none⟩ = some (.int .i64 q.imm) := (cell_of_blk hr7 5).1
      clear hr7 r0 r1 r2 r3 r4 r5 s0 s1 s2 s3 s4 s5
      refine bodyPost_ret (v := .agg #[.int .i64 q.kind, .int .i64 q.dst, .int .i64 q.a, .int .i64 q.b, .int .i64 q.c, .int .i64 q.imm]) (by simp [results, Try.results38, go_sem, k0, k1, k2, k3, k4, k5]; try rfl) rfl ?_
      exact HPP.out _ hB7
end Go.Proofs.Ytfadeipdepamlaa
