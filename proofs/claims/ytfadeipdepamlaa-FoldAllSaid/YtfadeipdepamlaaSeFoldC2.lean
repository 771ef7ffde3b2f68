/- Parts of a proof. No condition but those that each theorem names. -/
import Derived.WalkKit
import Derived.OpenShut
import Derived.Below
import Derived.Lib.Hide
import Derived.Laws.OwnMore
import Derived.Deep.QuietTactic
import Derived.Deep.AppendLies
import Derived.ProofKit
import Derived.SizedLaws
import Derived.Test.YtfadeipdepamlaaProg
import Derived.Handy
import Derived.Deep.RegionHeld3
import Derived.BigQuiet
import Derived.Maps.AppendAt
import Derived.Maps.RangeWalk
import Derived.Maps.OwnSet
import Derived.StillTailTactics
import Derived.Laws.CopyOwn
import Derived.Lib.BufferWrite
import Derived.OrdersHeld
import Derived.RegionTactic
import Derived.Deep.DeepCutAuto
import Derived.Test.YtfadeipdepamlaaSeG0e0
import Derived.Test.YtfadeipdepamlaaSeG0e1
import Derived.Test.YtfadeipdepamlaaSeG0e2
import Derived.Test.YtfadeipdepamlaaSeG0e4
import Derived.Test.YtfadeipdepamlaaSeIrC
import Derived.Test.YtfadeipdepamlaaSeG1e5
import Derived.Test.YtfadeipdepamlaaSeG1e6
import Derived.Test.YtfadeipdepamlaaSeG0e11
import Derived.Test.YtfadeipdepamlaaSeG1e13
import Derived.Test.YtfadeipdepamlaaSeG1e14
import Derived.Test.YtfadeipdepamlaaSeFoldM
import Derived.Test.YtfadeipdepamlaaSeFoldA
import Derived.Test.YtfadeipdepamlaaSeFoldB
namespace Go.Proofs.Ytfadeipdepamlaa
open Go.RowKit Go.Maps
set_option linter.unusedVariables false
set_option maxRecDepth 100000 in
set_option maxHeartbeats 4000000 in
theorem fold_one_4 (F b n : Nat) (f : Int → Option Int) (o : Opn) (hf : o.fine) (w : World) (h : FoAt w F b n f) (hk : o.kind = 4) :
    Calls Try.prog 56 #[.pointer (some ⟨F, 0, none⟩), opVal o] w (OptPost (fdOne f o) o w) := by
  have HWA := Lib.hid (intR_lit hf.2.2.1)
  have HWB := Lib.hid (intR_lit hf.2.2.2.1)
  have HWC := Lib.hid (intR_lit hf.2.2.2.2.1)
  have HBS := Lib.hid (fun l z W h => fold_beside F b n f o hf l z W h)
  have HZB := Lib.hid (fun W h => fold_is F b n f o.b 0 HWB.out W h)
  have HOC := Lib.hid (fun W h => fold_is F b n f o.c 4294967295 HWC.out W h)
  have HZC := Lib.hid (fun W h => fold_is F b n f o.c 0 HWC.out W h)
  have HCP := Lib.hid (fun t ht W h => fold_copied F b n f o t ht W h)
  unfold CopPost opVal at HCP
  unfold OptPost opVal at HBS
  generalize hPO : OptPost (fdOne f o) o w = PO
  have HPO := Lib.hid hPO
  unfold opVal
  have e1 := alloc_size w (.cells #[.int .i64 o.kind, .int .i64 o.dst, .int .i64 o.a, .int .i64 o.b, .int .i64 o.c, .int .i64 o.imm] 41) rfl
  have hX := alloc_old (alloc_last w _ rfl (.cells #[.int .i64 o.kind, .int .i64 o.dst, .int .i64 o.a, .int .i64 o.b, .int .i64 o.c, .int .i64 o.imm] 41)) (.cells #[.int .i64 0, .int .i64 0, .int .i64 0, .int .i64 0, .int .i64 0, .int .i64 0] 41)
  have hR := alloc_last _ _ e1 (.cells #[.int .i64 0, .int .i64 0, .int .i64 0, .int .i64 0, .int .i64 0, .int .i64 0] 41)
  have hB := bal (bnew w (.cells #[.int .i64 o.kind, .int .i64 o.dst, .int .i64 o.a, .int .i64 o.b, .int .i64 o.c, .int .i64 o.imm] 41)) (.cells #[.int .i64 0, .int .i64 0, .int .i64 0, .int .i64 0, .int .i64 0, .int .i64 0] 41)
  have HF := Lib.hid (h.below hB)
  clear h hf hPO
  have q3 : (o.kind == 3) = false := by rw [beq_eq_false_iff_ne]; omega
  have q8 : (o.kind == 8) = false := by rw [beq_eq_false_iff_ne]; omega
  have q9 : (o.kind == 9) = false := by rw [beq_eq_false_iff_ne]; omega
  have q5 : (o.kind == 5) = false := by rw [beq_eq_false_iff_ne]; omega
  have q7 : (o.kind == 7) = false := by rw [beq_eq_false_iff_ne]; omega
  have q4 : (o.kind == 4) = true := by rw [beq_iff_eq]; exact hk
  cases hz : fdIs f o.b 0 with
  | true =>
    rw [hz] at HZB
    have hoe : fdOne f o = some (fdCopied f o o.a) := by unfold fdOne; rw [if_neg (by omega), if_neg (by omega), if_neg (by omega), if_pos (by omega), if_pos hz]
    clear hk
    go_enter Try.func56, Try.ntmps56
    go_upto_region 1 with (fail)
    generalize (w.alloc (.cells #[.int .i64 o.kind, .int .i64 o.dst, .int .i64 o.a, .int .i64 o.b, .int .i64 o.c, .int .i64 o.imm] 41)).alloc (.cells #[.int .i64 0, .int .i64 0, .int .i64 0, .int .i64 0, .int .i64 0, .int .i64 0] 41) = w1 at *
    have HX := Lib.hid hX
    have HR := Lib.hid hR
    have HB := Lib.hid hB
    clear hX hR hB e1
    obtain ⟨c0, c1, c2, c3, c4, c5, _, _, _, _⟩ := op_cells_at HX.out
    go_wp2_with fail
    refine (HZB.out _ HF.out).mono ?_
    rintro e w' ⟨rfl, rfl⟩
    replace HCP := Lib.hid (HCP.out o.a HWA.out)
    have HPP : Hid (∀ w', Below w.heap.size w w' → PO (.returned (.tuple #[.agg #[.int .i64 (fdCopied f o o.a).kind, .int .i64 (fdCopied f o o.a).dst, .int .i64 (fdCopied f o o.a).a, .int .i64 (fdCopied f o o.a).b, .int .i64 (fdCopied f o o.a).c, .int .i64 (fdCopied f o o.a).imm], .bool true])) w') := Lib.hid (fun w' hb => by rw [← HPO.out, hoe]; exact ⟨rfl, hb⟩)
    clear hoe
    generalize fdCopied f o o.a = q at *
    go_wp2_with fail
    refine (HCP.out _ HF.out).mono ?_
    rintro e w2 ⟨rfl, hb⟩
    have hX' := (hb.block _ (lt_of_blk HX.out)).trans HX.out
    have hR' := (hb.block _ (lt_of_blk HR.out)).trans HR.out
    have hB' := bch HB.out hb
    have HX := Lib.hid hX'
    have HR := Lib.hid hR'
    have HB := Lib.hid hB'
    clear hX' hR' hB' hb
    clear c0 c1 c2 c3 c4 c5
    obtain ⟨r0, s0⟩ := cell_of_blk HR.out 0
    obtain ⟨r1, s1⟩ := cell_of_blk HR.out 1
    obtain ⟨r2, s2⟩ := cell_of_blk HR.out 2
    obtain ⟨r3, s3⟩ := cell_of_blk HR.out 3
    obtain ⟨r4, s4⟩ := cell_of_blk HR.out 4
    obtain ⟨r5, s5⟩ := cell_of_blk HR.out 5
    go_wp2_with fail
    have hr7 := (blk_set (blk_set (blk_set (blk_set (blk_set (blk_set HR.out 0 (.int .i64 q.kind)) 1 (.int .i64 q.dst)) 2 (.int .i64 q.a)) 3 (.int .i64 q.b)) 4 (.int .i64 q.c)) 5 (.int .i64 q.imm))
    have hB7 := ((((((HB.out.setCell (p := ⟨w.heap.size + 1, 0, none⟩) (by show w.heap.size ≤ w.heap.size + 1; omega) (.int .i64 q.kind)).setCell (p := ⟨w.heap.size + 1, 1, none⟩) (by show w.heap.size ≤ w.heap.size + 1; omega) (.int .i64 q.dst)).setCell (p := ⟨w.heap.size + 1, 2, none⟩) (by show w.heap.size ≤ w.heap.size + 1; omega) (.int .i64 q.a)).setCell (p := ⟨w.heap.size + 1, 3, none⟩) (by show w.heap.size ≤ w.heap.size + 1; omega) (.int .i64 q.b)).setCell (p := ⟨w.heap.size + 1, 4, none⟩) (by show w.heap.size ≤ w.heap.size + 1; omega) (.int .i64 q.c)).setCell (p := ⟨w.heap.size + 1, 5, none⟩) (by show w.heap.size ≤ w.heap.size + 1; omega) (.int .i64 q.imm))
    generalize ((((((w2.setCell ⟨w.heap.size + 1, 0, none⟩ (.int .i64 q.kind)).setCell ⟨w.heap.size + 1, 1, none⟩ (.int .i64 q.dst)).setCell ⟨w.heap.size + 1, 2, none⟩ (.int .i64 q.a)).setCell ⟨w.heap.size + 1, 3, none⟩ (.int .i64 q.b)).setCell ⟨w.heap.size + 1, 4, none⟩ (.int .i64 q.c)).setCell ⟨w.heap.size + 1, 5, none⟩ (.int .i64 q.imm)) = w7 at *
    have k0 : w7.cell? ⟨w.heap.size + 1, 0, none⟩ = some (.int .i64 q.kind) := (cell_of_blk hr7 0).1
    have k1 : w7.cell? ⟨w.heap.size + 1, 1, none⟩ = some (.int .i64 q.dst) := (cell_of_blk hr7 1).1
    have k2 : w7.cell? ⟨w.heap.size + 1, 2, none⟩ = some (.int .i64 q.a) := (cell_of_blk hr7 2).1
    have k3 : w7.cell? ⟨w.heap.size + 1, 3, none⟩ = some (.int .i64 q.b) := (cell_of_blk hr7 3).1
    have k4 : w7.cell? ⟨w.heap.size + 1, 4, none⟩ = some (.int .i64 q.c) := (cell_of_blk hr7 4).1
    have k5 : w7.cell? ⟨w.heap.size + 1, 5, none⟩ = some (.int .i64 q.imm) := (cell_of_blk hr7 5).1
    clear hr7 r0 r1 r2 r3 r4 r5 s0 s1 s2 s3 s4 s5
    refine bodyPost_ret (v := .tuple #[.agg #[.int .i64 q.kind, .int .i64 q.dst, .int .i64 q.a, .int .i64 q.b, .int .i64 q.c, .int .i64 q.imm], .bool true]) (by simp [results, Try.results56, go_sem, k0, k1, k2, k3, k4, k5]; try rfl) rfl ?_
    exact HPP.out _ hB7
  | false =>
    rw [hz] at HZB
    have hoe : fdOne f o = none := by unfold fdOne; rw [if_neg (by omega), if_neg (by omega), if_neg (by omega), if_pos (by omega), if_neg (by rw [hz]; decide)]
    clear hk
    go_enter Try.func56, Try.ntmps56
    go_upto_region 1 with (fail)
    generalize (w.alloc (.cells #[.int .i64 o.kind, .int .i64 o.dst, .int .i64 o.a, .int .i64 o.b, .int .i64 o.c, .int .i64 o.imm] 41)).alloc (.cells #[.int .i64 0, .int .i64 0, .int .i64 0, .int .i64 0, .int .i64 0, .int .i64 0] 41) = w1 at *
    have HX := Lib.hid hX
    have HR := Lib.hid hR
    have HB := Lib.hid hB
    clear hX hR hB e1
    obtain ⟨c0, c1, c2, c3, c4, c5, _, _, _, _⟩ := op_cells_at HX.out
    go_wp2_with fail
    refine (HZB.out _ HF.out).mono ?_
    rintro e w' ⟨rfl, rfl⟩
    have HPP : Hid (∀ w', Below w.heap.size w w' → PO (.returned (.tuple #[.agg #[.int .i64 o.kind, .int .i64 o.dst, .int .i64 o.a, .int .i64 o.b, .int .i64 o.c, .int .i64 o.imm], .bool false])) w') := Lib.hid (fun w' hb => by rw [← HPO.out, hoe]; exact ⟨rfl, hb⟩)
    clear hoe
    obtain ⟨r0, s0⟩ := cell_of_blk HR.out 0
    obtain ⟨r1, s1⟩ := cell_of_blk HR.out 1
    obtain ⟨r2, s2⟩ := cell_of_blk HR.out 2
    obtain ⟨r3, s3⟩ := cell_of_blk HR.out 3
    obtain ⟨r4, s4⟩ := cell_of_blk HR.out 4
    obtain ⟨r5, s5⟩ := cell_of_blk HR.out 5
    go_wp2_with fail
    clear c0 c1 c2 c3 c4 c5
    have hr7 := (blk_set (blk_set (blk_set (blk_set (blk_set (blk_set HR.out 0 (.int .i64 o.kind)) 1 (.int .i64 o.dst)) 2 (.int .i64 o.a)) 3 (.int .i64 o.b)) 4 (.int .i64 o.c)) 5 (.int .i64 o.imm))
    have hB7 := ((((((HB.out.setCell (p := ⟨w.heap.size + 1, 0, none⟩) (by show w.heap.size ≤ w.heap.size + 1; omega) (.int .i64 o.kind)).setCell (p := ⟨w.heap.size + 1, 1, none⟩) (by show w.heap.size ≤ w.heap.size + 1; omega) (.int .i64 o.dst)).setCell (p := ⟨w.heap.size + 1, 2, none⟩) (by show w.heap.size ≤ w.heap.size + 1; omega) (.int .i64 o.a)).setCell (p := ⟨w.heap.size + 1, 3, none⟩) (by show w.heap.size ≤ w.heap.size + 1; omega) (.int .i64 o.b)).setCell (p := ⟨w.heap.size + 1, 4, none⟩) (by show w.heap.size ≤ w.heap.size + 1; omega) (.int .i64 o.c)).setCell (p := ⟨w.heap.size + 1, 5, none⟩) (by show w.heap.size ≤ w.heap.size + 1; omega) (.int .i64 o.imm))
    generalize ((((((w1.setCell ⟨w.heap.size + 1, 0, none⟩ (.int .i64 o.kind)).setCell ⟨w.heap.size + 1, 1, none⟩ (.int .i64 o.dst)).setCell ⟨w.heap.size + 1, 2, none⟩ (.int .i64 o.a)).setCell ⟨w.heap.size + 1, 3, none⟩ (.int .i64 o.b)).setCell ⟨w.heap.size + 1, 4, none⟩ (.int .i64 o.c)).setCell ⟨w.heap.size + 1, 5, none⟩ (.int .i64 o.imm)) = w7 at *
    have k0 : w7.cell? ⟨w.heap.size + 1, 0, none⟩ = some (.int .i64 o.kind) := (cell_of_blk hr7 0).1
    have k1 : w7.cell? ⟨w.heap.size + 1, 1, none⟩ = some (.int .i64 o.dst) := (cell_of_blk hr7 1).1
    have k2 : w7.cell? ⟨w.heap.size + 1, 2, none⟩ = some (.int .i64 o.a) := (cell_of_blk hr7 2).1
    have k3 : w7.cell? ⟨w.heap.size + 1, 3, none⟩ = some (.int .i64 o.b) := (cell_of_blk hr7 3).1
    have k4 : w7.cell? ⟨w.heap.size + 1, 4, none⟩ = some (.int .i64 o.c) := (cell_of_blk hr7 4).1
    have k5 : w7.cell? ⟨w.heap.size + 1, 5, none⟩ = some (.int .i64 o.imm) := (cell_of_blk hr7 5).1
    clear hr7 r0 r1 r2 r3 r4 r5 s0 s1 s2 s3 s4 s5
    refine bodyPost_ret (v := .tuple #[.agg #[.int .i64 o.kind, .int .i64 o.dst, .int .i64 o.a, .int .i64 o.b, .int .i64 o.c, .int .i64 o.imm], .bool false]) (by simp [results, Try.results56, go_sem, k0, k1, k2, k3, k4, k5]; try rfl) rfl ?_
    exact HPP.out _ hB7
set_option maxRecDepth 100000 in
set_option maxHeartbeats 4000000 in
theorem fold_one_11 (F b n : Nat) (f : Int → Option Int) (o : Opn) (hf : o.fine) (w : World) (h : FoAt w F b n f) (hk : o.kind = 11) :
    Calls Try.prog 56 #[.pointer (some ⟨F, 0, none⟩), opVal o] w (OptPost (fdOne f o) o w) := by
  have HWA := Lib.hid (intR_lit hf.2.2.1)
  have HWB := Lib.hid (intR_lit hf.2.2.2.1)
  have HWC := Lib.hid (intR_lit hf.2.2.2.2.1)
  have HBS := Lib.hid (fun l z W h => fold_beside F b n f o hf l z W h)
  have HZB := Lib.hid (fun W h => fold_is F b n f o.b 0 HWB.out W h)
  have HOC := Lib.hid (fun W h => fold_is F b n f o.c 4294967295 HWC.out W h)
  have HZC := Lib.hid (fun W h => fold_is F b n f o.c 0 HWC.out W h)
  have HCP := Lib.hid (fun t ht W h => fold_copied F b n f o t ht W h)
  unfold CopPost opVal at HCP
  unfold OptPost opVal at HBS
  generalize hPO : OptPost (fdOne f o) o w = PO
  have HPO := Lib.hid hPO
  unfold opVal
  have e1 := alloc_size w (.cells #[.int .i64 o.kind, .int .i64 o.dst, .int .i64 o.a, .int .i64 o.b, .int .i64 o.c, .int .i64 o.imm] 41) rfl
  have hX := alloc_old (alloc_last w _ rfl (.cells #[.int .i64 o.kind, .int .i64 o.dst, .int .i64 o.a, .int .i64 o.b, .int .i64 o.c, .int .i64 o.imm] 41)) (.cells #[.int .i64 0, .int .i64 0, .int .i64 0, .int .i64 0, .int .i64 0, .int .i64 0] 41)
  have hR := alloc_last _ _ e1 (.cells #[.int .i64 0, .int .i64 0, .int .i64 0, .int .i64 0, .int .i64 0, .int .i64 0] 41)
  have hB := bal (bnew w (.cells #[.int .i64 o.kind, .int .i64 o.dst, .int .i64 o.a, .int .i64 o.b, .int .i64 o.c, .int .i64 o.imm] 41)) (.cells #[.int .i64 0, .int .i64 0, .int .i64 0, .int .i64 0, .int .i64 0, .int .i64 0] 41)
  have HF := Lib.hid (h.below hB)
  clear h hf hPO
  have q3 : (o.kind == 3) = false := by rw [beq_eq_false_iff_ne]; omega
  have q8 : (o.kind == 8) = false := by rw [beq_eq_false_iff_ne]; omega
  have q9 : (o.kind == 9) = false := by rw [beq_eq_false_iff_ne]; omega
  have q5 : (o.kind == 5) = false := by rw [beq_eq_false_iff_ne]; omega
  have q7 : (o.kind == 7) = false := by rw [beq_eq_false_iff_ne]; omega
  have q4 : (o.kind == 4) = false := by rw [beq_eq_false_iff_ne]; omega
  have q11 : (o.kind == 11) = true := by rw [beq_iff_eq]; exact hk
  by_cases hi : o.imm = 0
  · have qi : (o.imm == 0) = true := by rw [beq_iff_eq]; exact hi
    have hoe : fdOne f o = some (fdCopied f o o.a) := by unfold fdOne; rw [if_neg (by omega), if_neg (by omega), if_neg (by omega), if_neg (by omega), if_pos (by omega), if_pos hi]
    clear hk hi
    go_enter Try.func56, Try.ntmps56
    go_upto_region 1 with (fail)
    generalize (w.alloc (.cells #[.int .i64 o.kind, .int .i64 o.dst, .int .i64 o.a, .int .i64 o.b, .int .i64 o.c, .int .i64 o.imm] 41)).alloc (.cells #[.int .i64 0, .int .i64 0, .int .i64 0, .int .i64 0, .int .i64 0, .int .i64 0] 41) = w1 at *
    have HX := Lib.hid hX
    have HR := Lib.hid hR
    have HB := Lib.hid hB
    clear hX hR hB e1
    obtain ⟨c0, c1, c2, c3, c4, c5, _, _, _, _⟩ := op_cells_at HX.out
    replace HCP := Lib.hid (HCP.out o.a HWA.out)
    have HPP : Hid (∀ w', Below w.heap.size w w' → PO (.returned (.tuple #[.agg #[.int .i64 (fdCopied f o o.a).kind, .int .i64 (fdCopied f o o.a).dst, .int .i64 (fdCopied f o o.a).a, .int .i64 (fdCopied f o o.a).b, .int .i64 (fdCopied f o o.a).c, .int .i64 (fdCopied f o o.a).imm], .bool true])) w') := Lib.hid (fun w' hb => by rw [← HPO.out, hoe]; exact ⟨rfl, hb⟩)
    clear hoe
    generalize fdCopied f o o.a = q at *
    go_wp2_with fail
    refine (HCP.out _ HF.out).mono ?_
    rintro e w2 ⟨rfl, hb⟩
    have hX' := (hb.block _ (lt_of_blk HX.out)).trans HX.out
    have hR' := (hb.block _ (lt_of_blk HR.out)).trans HR.out
    have hB' := bch HB.out hb
    have HX := Lib.hid hX'
    have HR := Lib.hid hR'
    have HB := Lib.hid hB'
    clear hX' hR' hB' hb
    clear c0 c1 c2 c3 c4 c5
    obtain ⟨r0, s0⟩ := cell_of_blk HR.out 0
    obtain ⟨r1, s1⟩ := cell_of_blk HR.out 1
    obtain ⟨r2, s2⟩ := cell_of_blk HR.out 2
    obtain ⟨r3, s3⟩ := cell_of_blk HR.out 3
    obtain ⟨r4, s4⟩ := cell_of_blk HR.out 4
    obtain ⟨r5, s5⟩ := cell_of_blk HR.out 5
    go_wp2_with fail
    have hr7 := (blk_set (blk_set (blk_set (blk_set (blk_set (blk_set HR.out 0 (.int .i64 q.kind)) 1 (.int .i64 q.dst)) 2 (.int .i64 q.a)) 3 (.int .i64 q.b)) 4 (.int .i64 q.c)) 5 (.int .i64 q.imm))
    have hB7 := ((((((HB.out.setCell (p := ⟨w.heap.size + 1, 0, none⟩) (by show w.heap.size ≤ w.heap.size + 1; omega) (.int .i64 q.kind)).setCell (p := ⟨w.heap.size + 1, 1, none⟩) (by show w.heap.size ≤ w.heap.size + 1; omega) (.int .i64 q.dst)).setCell (p := ⟨w.heap.size + 1, 2, none⟩) (by show w.heap.size ≤ w.heap.size + 1; omega) (.int .i64 q.a)).setCell (p := ⟨w.heap.size + 1, 3, none⟩) (by show w.heap.size ≤ w.heap.size + 1; omega) (.int .i64 q.b)).setCell (p := ⟨w.heap.size + 1, 4, none⟩) (by show w.heap.size ≤ w.heap.size + 1; omega) (.int .i64 q.c)).setCell (p := ⟨w.heap.size + 1, 5, none⟩) (by show w.heap.size ≤ w.heap.size + 1; omega) (.int .i64 q.imm))
    generalize ((((((w2.setCell ⟨w.heap.size + 1, 0, none⟩ (.int .i64 q.kind)).setCell ⟨w.heap.size + 1, 1, none⟩ (.int .i64 q.dst)).setCell ⟨w.heap.size + 1, 2, none⟩ (.int .i64 q.a)).setCell ⟨w.heap.size + 1, 3, none⟩ (.int .i64 q.b)).setCell ⟨w.heap.size + 1, 4, none⟩ (.int .i64 q.c)).setCell ⟨w.heap.size + 1, 5, none⟩ (.int .i64 q.imm)) = w7 at *
    have k0 : w7.cell? ⟨w.heap.size + 1, 0, none⟩ = some (.int .i64 q.kind) := (cell_of_blk hr7 0).1
    have k1 : w7.cell? ⟨w.heap.size + 1, 1, none⟩ = some (.int .i64 q.dst) := (cell_of_blk hr7 1).1
    have k2 : w7.cell? ⟨w.heap.size + 1, 2, none⟩ = some (.int .i64 q.a) := (cell_of_blk hr7 2).1
    have k3 : w7.cell? ⟨w.heap.size + 1, 3, none⟩ = some (.int .i64 q.b) := (cell_of_blk hr7 3).1
    have k4 : w7.cell? ⟨w.heap.size + 1, 4, none⟩ = some (.int .i64 q.c) := (cell_of_blk hr7 4).1
    have k5 : w7.cell? ⟨w.heap.size + 1, 5, none⟩ = some (.int .i64 q.imm) := (cell_of_blk hr7 5).1
    clear hr7 r0 r1 r2 r3 r4 r5 s0 s1 s2 s3 s4 s5
    refine bodyPost_ret (v := .tuple #[.agg #[.int .i64 q.kind, .int .i64 q.dst, .int .i64 q.a, .int .i64 q.b, .int .i64 q.c, .int .i64 q.imm], .bool true]) (by simp [results, Try.results56, go_sem, k0, k1, k2, k3, k4, k5]; try rfl) rfl ?_
    exact HPP.out _ hB7
  · have qi : (o.imm == 0) = false := by rw [beq_eq_false_iff_ne]; exact hi
    have hoe : fdOne f o = none := by unfold fdOne; rw [if_neg (by omega), if_neg (by omega), if_neg (by omega), if_neg (by omega), if_pos (by omega), if_neg hi]
    clear hk hi
    go_enter Try.func56, Try.ntmps56
    go_upto_region 1 with (fail)
    generalize (w.alloc (.cells #[.int .i64 o.kind, .int .i64 o.dst, .int .i64 o.a, .int .i64 o.b, .int .i64 o.c, .int .i64 o.imm] 41)).alloc (.cells #[.int .i64 0, .int .i64 0, .int .i64 0, .int .i64 0, .int .i64 0, .int .i64 0] 41) = w1 at *
    have HX := Lib.hid hX
    have HR := Lib.hid hR
    have HB := Lib.hid hB
    clear hX hR hB e1
    obtain ⟨c0, c1, c2, c3, c4, c5, _, _, _, _⟩ := op_cells_at HX.out
    have HPP : Hid (∀ w', Below w.heap.size w w' → PO (.returned (.tuple #[.agg #[.int .i64 o.kind, .int .i64 o.dst, .int .i64 o.a, .int .i64 o.b, .int .i64 o.c, .int .i64 o.imm], .bool false])) w') := Lib.hid (fun w' hb => by rw [← HPO.out, hoe]; exact ⟨rfl, hb⟩)
    clear hoe
    obtain ⟨r0, s0⟩ := cell_of_blk HR.out 0
    obtain ⟨r1, s1⟩ := cell_of_blk HR.out 1
    obtain ⟨r2, s2⟩ := cell_of_blk HR.out 2
    obtain ⟨r3, s3⟩ := cell_of_blk HR.out 3
    obtain ⟨r4, s4⟩ := cell_of_blk HR.out 4
    obtain ⟨r5, s5⟩ := cell_of_blk HR.out 5
    go_wp2_with fail
    clear c0 c1 c2 c3 c4 c5
    have hr7 := (blk_set (blk_set (blk_set (blk_set (blk_set (blk_set HR.out 0 (.int .i64 o.kind)) 1 (.int .i64 o.dst)) 2 (.int .i64 o.a)) 3 (.int .i64 o.b)) 4 (.int .i64 o.c)) 5 (.int .i64 o.imm))
    have hB7 := ((((((HB.out.setCell (p := ⟨w.heap.size + 1, 0, none⟩) (by show w.heap.size ≤ w.heap.size + 1; omega) (.int .i64 o.kind)).setCell (p := ⟨w.heap.size + 1, 1, none⟩) (by show w.heap.size ≤ w.heap.size + 1; omega) (.int .i64 o.dst)).setCell (p := ⟨w.heap.size + 1, 2, none⟩) (by show w.heap.size ≤ w.heap.size + 1; omega) (.int .i64 o.a)).setCell (p := ⟨w.heap.size + 1, 3, none⟩) (by show w.heap.size ≤ w.heap.size + 1; omega) (.int .i64 o.b)).setCell (p := ⟨w.heap.size + 1, 4, none⟩) (by show w.heap.size ≤ w.heap.size + 1; omega) (.int .i64 o.c)).setCell (p := ⟨w.heap.size + 1, 5, none⟩) (by show w.heap.size ≤ w.heap.size + 1; omega) (.int .i64 o.imm))
    generalize ((((((w1.setCell ⟨w.heap.size + 1, 0, none⟩ (.int .i64 o.kind)).setCell ⟨w.heap.size + 1, 1, none⟩ (.int .i64 o.dst)).setCell ⟨w.heap.size + 1, 2, none⟩ (.int .i64 o.a)).setCell ⟨w.heap.size + 1, 3, none⟩ (.int .i64 o.b)).setCell ⟨w.heap.size + 1, 4, none⟩ (.int .i64 o.c)).setCell ⟨w.heap.size + 1, 5, none⟩ (.int .i64 o.imm)) = w7 at *
    have k0 : w7.cell? ⟨w.heap.size + 1, 0, none⟩ = some (.int .i64 o.kind) := (cell_of_blk hr7 0).1
    have k1 : w7.cell? ⟨w.heap.size + 1, 1, none⟩ = some (.int .i64 o.dst) := (cell_of_blk hr7 1).1
    have k2 : w7.cell? ⟨w.heap.size + 1, 2, none⟩ = some (.int .i64 o.a) := (cell_of_blk hr7 2).1
    have k3 : w7.cell? ⟨w.heap.size + 1, 3, none⟩ = some (.int .i64 o.b) := (cell_of_blk hr7 3).1
    have k4 : w7.cell? ⟨w.heap.size + 1, 4, none⟩ = some (.int .i64 o.c) := (cell_of_blk hr7 4).1
    have k5 : w7.cell? ⟨w.heap.size + 1, 5, none⟩ = some (.int .i64 o.imm) := (cell_of_blk hr7 5).1
    clear hr7 r0 r1 r2 r3 r4 r5 s0 s1 s2 s3 s4 s5
    refine bodyPost_ret (v := .tuple #[.agg #[.int .i64 o.kind, .int .i64 o.dst, .int .i64 o.a, .int .i64 o.b, .int .i64 o.c, .int .i64 o.imm], .bool false]) (by simp [results, Try.results56, go_sem, k0, k1, k2, k3, k4, k5]; try rfl) rfl ?_
    exact HPP.out _ hB7
set_option maxRecDepth 100000 in
set_option maxHeartbeats 4000000 in
theorem fold_one_12 (F b n : Nat) (f : Int → Option Int) (o : Opn) (hf : o.fine) (w : World) (h : FoAt w F b n f) (hk : o.kind = 12) :
    Calls Try.prog 56 #[.pointer (some ⟨F, 0, none⟩), opVal o] w (OptPost (fdOne f o) o w) := by
  have HWA := Lib.hid (intR_lit hf.2.2.1)
  have HWB := Lib.hid (intR_lit hf.2.2.2.1)
  have HWC := Lib.hid (intR_lit hf.2.2.2.2.1)
  have HBS := Lib.hid (fun l z W h => fold_beside F b n f o hf l z W h)
  have HZB := Lib.hid (fun W h => fold_is F b n f o.b 0 HWB.out W h)
  have HOC := Lib.hid (fun W h => fold_is F b n f o.c 4294967295 HWC.out W h)
  have HZC := Lib.hid (fun W h => fold_is F b n f o.c 0 HWC.out W h)
  have HCP := Lib.hid (fun t ht W h => fold_copied F b n f o t ht W h)
  unfold CopPost opVal at HCP
  unfold OptPost opVal at HBS
  generalize hPO : OptPost (fdOne f o) o w = PO
  have HPO := Lib.hid hPO
  unfold opVal
  have e1 := alloc_size w (.cells #[.int .i64 o.kind, .int .i64 o.dst, .int .i64 o.a, .int .i64 o.b, .int .i64 o.c, .int .i64 o.imm] 41) rfl
  have hX := alloc_old (alloc_last w _ rfl (.cells #[.int .i64 o.kind, .int .i64 o.dst, .int .i64 o.a, .int .i64 o.b, .int .i64 o.c, .int .i64 o.imm] 41)) (.cells #[.int .i64 0, .int .i64 0, .int .i64 0, .int .i64 0, .int .i64 0, .int .i64 0] 41)
  have hR := alloc_last _ _ e1 (.cells #[.int .i64 0, .int .i64 0, .int .i64 0, .int .i64 0, .int .i64 0, .int .i64 0] 41)
  have hB := bal (bnew w (.cells #[.int .i64 o.kind, .int .i64 o.dst, .int .i64 o.a, .int .i64 o.b, .int .i64 o.c, .int .i64 o.imm] 41)) (.cells #[.int .i64 0, .int .i64 0, .int .i64 0, .int .i64 0, .int .i64 0, .int .i64 0] 41)
  have HF := Lib.hid (h.below hB)
  clear h hf hPO
  have q3 : (o.kind == 3) = false := by rw [beq_eq_false_iff_ne]; omega
  have q8 : (o.kind == 8) = false := by rw [beq_eq_false_iff_ne]; omega
  have q9 : (o.kind == 9) = false := by rw [beq_eq_false_iff_ne]; omega
  have q5 : (o.kind == 5) = false := by rw [beq_eq_false_iff_ne]; omega
  have q7 : (o.kind == 7) = false := by rw [beq_eq_false_iff_ne]; omega
  have q4 : (o.kind == 4) = false := by rw [beq_eq_false_iff_ne]; omega
  have q11 : (o.kind == 11) = false := by rw [beq_eq_false_iff_ne]; omega
  have q12 : (o.kind == 12) = true := by rw [beq_iff_eq]; exact hk
  by_cases hi : o.imm = 0
  · have qi : (o.imm == 0) = true := by rw [beq_iff_eq]; exact hi
    have hoe : fdOne f o = some (fdCopied f o o.a) := by unfold fdOne; rw [if_neg (by omega), if_neg (by omega), if_neg (by omega), if_neg (by omega), if_pos (by omega), if_pos hi]
    clear hk hi
    go_enter Try.func56, Try.ntmps56
    go_upto_region 1 with (fail)
    generalize (w.alloc (.cells #[.int .i64 o.kind, .int .i64 o.dst, .int .i64 o.a, .int .i64 o.b, .int .i64 o.c, .int .i64 o.imm] 41)).alloc (.cells #[.int .i64 0, .int .i64 0, .int .i64 0, .int .i64 0, .int .i64 0, .int .i64 0] 41) = w1 at *
    have HX := Lib.hid hX
    have HR := Lib.hid hR
    have HB := Lib.hid hB
    clear hX hR hB e1
    obtain ⟨c0, c1, c2, c3, c4, c5, _, _, _, _⟩ := op_cells_at HX.out
    replace HCP := Lib.hid (HCP.out o.a HWA.out)
    have HPP : Hid (∀ w', Below w.heap.size w w' → PO (.returned (.tuple #[.agg #[.int .i64 (fdCopied f o o.a).kind, .int .i64 (fdCopied f o o.a).dst, .int .i64 (fdCopied f o o.a).a, .int .i64 (fdCopied f o o.a).b, .int .i64 (fdCopied f o o.a).c, .int .i64 (fdCopied f o o.a).imm], .bool true])) w') := Lib.hid (fun w' hb => by rw [← HPO.out, hoe]; exact ⟨rfl, hb⟩)
    clear hoe
    generalize fdCopied f o o.a = q at *
    go_wp2_with fail
    refine (HCP.out _ HF.out).mono ?_
    rintro e w2 ⟨rfl, hb⟩
    have hX' := (hb.block _ (lt_of_blk HX.out)).trans HX.out
    have hR' := (hb.block _ (lt_of_blk HR.out)).trans HR.out
    have hB' := bch HB.out hb
    have HX := Lib.hid hX'
    have HR := Lib.hid hR'
    have HB := Lib.hid hB'
    clear hX' hR' hB' hb
    clear c0 c1 c2 c3 c4 c5
    obtain ⟨r0, s0⟩ := cell_of_blk HR.out 0
    obtain ⟨r1, s1⟩ := cell_of_blk HR.out 1
    obtain ⟨r2, s2⟩ := cell_of_blk HR.out 2
    obtain ⟨r3, s3⟩ := cell_of_blk HR.out 3
    obtain ⟨r4, s4⟩ := cell_of_blk HR.out 4
    obtain ⟨r5, s5⟩ := cell_of_blk HR.out 5
    go_wp2_with fail
    have hr7 := (blk_set (blk_set (blk_set (blk_set (blk_set (blk_set HR.out 0 (.int .i64 q.kind)) 1 (.int .i64 q.dst)) 2 (.int .i64 q.a)) 3 (.int .i64 q.b)) 4 (.int .i64 q.c)) 5 (.int .i64 q.imm))
    have hB7 := ((((((HB.out.setCell (p := ⟨w.heap.size + 1, 0, none⟩) (by show w.heap.size ≤ w.heap.size + 1; omega) (.int .i64 q.kind)).setCell (p := ⟨w.heap.size + 1, 1, none⟩) (by show w.heap.size ≤ w.heap.size + 1; omega) (.int .i64 q.dst)).setCell (p := ⟨w.heap.size + 1, 2, none⟩) (by show w.heap.size ≤ w.heap.size + 1; omega) (.int .i64 q.a)).setCell (p := ⟨w.heap.size + 1, 3, none⟩) (by show w.heap.size ≤ w.heap.size + 1; omega) (.int .i64 q.b)).setCell (p := ⟨w.heap.size + 1, 4, none⟩) (by show w.heap.size ≤ w.heap.size + 1; omega) (.int .i64 q.c)).setCell (p := ⟨w.heap.size + 1, 5, none⟩) (by show w.heap.size ≤ w.heap.size + 1; omega) (.int .i64 q.imm))
    generalize ((((((w2.setCell ⟨w.heap.size + 1, 0, none⟩ (.int .i64 q.kind)).setCell ⟨w.heap.size + 1, 1, none⟩ (.int .i64 q.dst)).setCell ⟨w.heap.size + 1, 2, none⟩ (.int .i64 q.a)).setCell ⟨w.heap.size + 1, 3, none⟩ (.int .i64 q.b)).setCell ⟨w.heap.size + 1, 4, none⟩ (.int .i64 q.c)).setCell ⟨w.heap.size + 1, 5, none⟩ (.int .i64 q.imm)) = w7 at *
    have k0 : w7.cell? ⟨w.heap.size + 1, 0, none⟩ = some (.int .i64 q.kind) := (cell_of_blk hr7 0).1
    have k1 : w7.cell? ⟨w.heap.size + 1, 1, none⟩ = some (.int .i64 q.dst) := (cell_of_blk hr7 1).1
    have k2 : w7.cell? ⟨w.heap.size + 1, 2, none⟩ = some (.int .i64 q.a) := (cell_of_blk hr7 2).1
    have k3 : w7.cell? ⟨w.heap.size + 1, 3, none⟩ = some (.int .i64 q.b) := (cell_of_blk hr7 3).1
    have k4 : w7.cell? ⟨w.heap.size + 1, 4, none⟩ = some (.int .i64 q.c) := (cell_of_blk hr7 4).1
    have k5 : w7.cell? ⟨w.heap.size + 1, 5, none⟩ = some (.int .i64 q.imm) := (cell_of_blk hr7 5).1
    clear hr7 r0 r1 r2 r3 r4 r5 s0 s1 s2 s3 s4 s5
    refine bodyPost_ret (v := .tuple #[.agg #[.int .i64 q.kind, .int .i64 q.dst, .int .i64 q.a, .int .i64 q.b, .int .i64 q.c, .int .i64 q.imm], .bool true]) (by simp [results, Try.results56, go_sem, k0, k1, k2, k3, k4, k5]; try rfl) rfl ?_
    exact HPP.out _ hB7
  · have qi : (o.imm == 0) = false := by rw [beq_eq_false_iff_ne]; exact hi
    have hoe : fdOne f o = none := by unfold fdOne; rw [if_neg (by omega), if_neg (by omega), if_neg (by omega), if_neg (by omega), if_pos (by omega), if_neg hi]
    clear hk hi
    go_enter Try.func56, Try.ntmps56
    go_upto_region 1 with (fail)
    generalize (w.alloc (.cells #[.int .i64 o.kind, .int .i64 o.dst, .int .i64 o.a, .int .i64 o.b, .int .i64 o.c, .int .i64 o.imm] 41)).alloc (.cells #[.int .i64 0, .int .i64 0, .int .i64 0, .int .i64 0, .int .i64 0, .int .i64 0] 41) = w1 at *
    have HX := Lib.hid hX
    have HR := Lib.hid hR
    have HB := Lib.hid hB
    clear hX hR hB e1
    obtain ⟨c0, c1, c2, c3, c4, c5, _, _, _, _⟩ := op_cells_at HX.out
    have HPP : Hid (∀ w', Below w.heap.size w w' → PO (.returned (.tuple #[.agg #[.int .i64 o.kind, .int .i64 o.dst, .int .i64 o.a, .int .i64 o.b, .int .i64 o.c, .int .i64 o.imm], .bool false])) w') := Lib.hid (fun w' hb => by rw [← HPO.out, hoe]; exact ⟨rfl, hb⟩)
    clear hoe
    obtain ⟨r0, s0⟩ := cell_of_blk HR.out 0
    obtain ⟨r1, s1⟩ := cell_of_blk HR.out 1
    obtain ⟨r2, s2⟩ := cell_of_blk HR.out 2
    obtain ⟨r3, s3⟩ := cell_of_blk HR.out 3
    obtain ⟨r4, s4⟩ := cell_of_blk HR.out 4
    obtain ⟨r5, s5⟩ := cell_of_blk HR.out 5
    go_wp2_with fail
    clear c0 c1 c2 c3 c4 c5
    have hr7 := (blk_set (blk_set (blk_set (blk_set (blk_set (blk_set HR.out 0 (.int .i64 o.kind)) 1 (.int .i64 o.dst)) 2 (.int .i64 o.a)) 3 (.int .i64 o.b)) 4 (.int .i64 o.c)) 5 (.int .i64 o.imm))
    have hB7 := ((((((HB.out.setCell (p := ⟨w.heap.size + 1, 0, none⟩) (by show w.heap.size ≤ w.heap.size + 1; omega) (.int .i64 o.kind)).setCell (p := ⟨w.heap.size + 1, 1, none⟩) (by show w.heap.size ≤ w.heap.size + 1; omega) (.int .i64 o.dst)).setCell (p := ⟨w.heap.size + 1, 2, none⟩) (by show w.heap.size ≤ w.heap.size + 1; omega) (.int .i64 o.a)).setCell (p := ⟨w.heap.size + 1, 3, none⟩) (by show w.heap.size ≤ w.heap.size + 1; omega) (.int .i64 o.b)).setCell (p := ⟨w.heap.size + 1, 4, none⟩) (by show w.heap.size ≤ w.heap.size + 1; omega) (.int .i64 o.c)).setCell (p := ⟨w.heap.size + 1, 5, none⟩) (by show w.heap.size ≤ w.heap.size + 1; omega) (.int .i64 o.imm))
    generalize ((((((w1.setCell ⟨w.heap.size + 1, 0, none⟩ (.int .i64 o.kind)).setCell ⟨w.heap.size + 1, 1, none⟩ (.int .i64 o.dst)).setCell ⟨w.heap.size + 1, 2, none⟩ (.int .i64 o.a)).setCell ⟨w.heap.size + 1, 3, none⟩ (.int .i64 o.b)).setCell ⟨w.heap.size + 1, 4, none⟩ (.int .i64 o.c)).setCell ⟨w.heap.size + 1, 5, none⟩ (.int .i64 o.imm)) = w7 at *
    have k0 : w7.cell? ⟨w.heap.size + 1, 0, none⟩ = some (.int .i64 o.kind) := (cell_of_blk hr7 0).1
    have k1 : w7.cell? ⟨w.heap.size + 1, 1, none⟩ = some (.int .i64 o.dst) := (cell_of_blk hr7 1).1
    have k2 : w7.cell? ⟨w.heap.size + 1, 2, none⟩ = some (.int .i64 o.a) := (cell_of_blk hr7 2).1
    have k3 : w7.cell? ⟨w.heap.size + 1, 3, none⟩ = some (.int .i64 o.b) := (cell_of_blk hr7 3).1
    have k4 : w7.cell? ⟨w.heap.size + 1, 4, none⟩ = some (.int .i64 o.c) := (cell_of_blk hr7 4).1
    have k5 : w7.cell? ⟨w.heap.size + 1, 5, none⟩ = some (.int .i64 o.imm) := (cell_of_blk hr7 5).1
    clear hr7 r0 r1 r2 r3 r4 r5 s0 s1 s2 s3 s4 s5
    refine bodyPost_ret (v := .tuple #[.agg #[.int .i64 o.kind, .int .i64 o.dst, .int .i64 o.a, .int .i64 o.b, .int .i64 o.c, .int .i64 o.imm], .bool false]) (by simp [results, Try.results56, go_sem, k0, k1, k2, k3, k4, k5]; try rfl) rfl ?_
    exact HPP.out _ hB7
set_option maxRecDepth 100000 in
set_option maxHeartbeats 4000000 in
theorem fold_one_13 (F b n : Nat) (f : Int → Option Int) (o : Opn) (hf : o.fine) (w : World) (h : FoAt w F b n f) (hk : o.kind = 13) :
    Calls Try.prog 56 #[.pointer (some ⟨F, 0, none⟩), opVal o] w (OptPost (fdOne f o) o w) := by
  have HWA := Lib.hid (intR_lit hf.2.2.1)
  have HWB := Lib.hid (intR_lit hf.2.2.2.1)
  have HWC := Lib.hid (intR_lit hf.2.2.2.2.1)
  have HBS := Lib.hid (fun l z W h => fold_beside F b n f o hf l z W h)
  have HZB := Lib.hid (fun W h => fold_is F b n f o.b 0 HWB.out W h)
  have HOC := Lib.hid (fun W h => fold_is F b n f o.c 4294967295 HWC.out W h)
  have HZC := Lib.hid (fun W h => fold_is F b n f o.c 0 HWC.out W h)
  have HCP := Lib.hid (fun t ht W h => fold_copied F b n f o t ht W h)
  unfold CopPost opVal at HCP
  unfold OptPost opVal at HBS
  generalize hPO : OptPost (fdOne f o) o w = PO
  have HPO := Lib.hid hPO
  unfold opVal
  have e1 := alloc_size w (.cells #[.int .i64 o.kind, .int .i64 o.dst, .int .i64 o.a, .int .i64 o.b, .int .i64 o.c, .int .i64 o.imm] 41) rfl
  have hX := alloc_old (alloc_last w _ rfl (.cells #[.int .i64 o.kind, .int .i64 o.dst, .int .i64 o.a, .int .i64 o.b, .int .i64 o.c, .int .i64 o.imm] 41)) (.cells #[.int .i64 0, .int .i64 0, .int .i64 0, .int .i64 0, .int .i64 0, .int .i64 0] 41)
  have hR := alloc_last _ _ e1 (.cells #[.int .i64 0, .int .i64 0, .int .i64 0, .int .i64 0, .int .i64 0, .int .i64 0] 41)
  have hB := bal (bnew w (.cells #[.int .i64 o.kind, .int .i64 o.dst, .int .i64 o.a, .int .i64 o.b, .int .i64 o.c, .int .i64 o.imm] 41)) (.cells #[.int .i64 0, .int .i64 0, .int .i64 0, .int .i64 0, .int .i64 0, .int .i64 0] 41)
  have HF := Lib.hid (h.below hB)
  clear h hf hPO
  have q3 : (o.kind == 3) = false := by rw [beq_eq_false_iff_ne]; omega
  have q8 : (o.kind == 8) = false := by rw [beq_eq_false_iff_ne]; omega
  have q9 : (o.kind == 9) = false := by rw [beq_eq_false_iff_ne]; omega
  have q5 : (o.kind == 5) = false := by rw [beq_eq_false_iff_ne]; omega
  have q7 : (o.kind == 7) = false := by rw [beq_eq_false_iff_ne]; omega
  have q4 : (o.kind == 4) = false := by rw [beq_eq_false_iff_ne]; omega
  have q11 : (o.kind == 11) = false := by rw [beq_eq_false_iff_ne]; omega
  have q12 : (o.kind == 12) = false := by rw [beq_eq_false_iff_ne]; omega
  have q13 : (o.kind == 13) = true := by rw [beq_iff_eq]; exact hk
  by_cases hi : o.imm = 0
  · have qi : (o.imm == 0) = true := by rw [beq_iff_eq]; exact hi
    have hoe : fdOne f o = some (fdCopied f o o.a) := by unfold fdOne; rw [if_neg (by omega), if_neg (by omega), if_neg (by omega), if_neg (by omega), if_pos (by omega), if_pos hi]
    clear hk hi
    go_enter Try.func56, Try.ntmps56
    go_upto_region 1 with (fail)
    generalize (w.alloc (.cells #[.int .i64 o.kind, .int .i64 o.dst, .int .i64 o.a, .int .i64 o.b, .int .i64 o.c, .int .i64 o.imm] 41)).alloc (.cells #[.int .i64 0, .int .i64 0, .int .i64 0, .int .i64 0, .int .i64 0, .int .i64 0] 41) = w1 at *
    have HX := Lib.hid hX
    have HR := Lib.hid hR
    have HB := Lib.hid hB
    clear hX hR hB e1
    obtain ⟨c0, c1, c2, c3, c4, c5, _, _, _, _⟩ := op_cells_at HX.out
    replace HCP := Lib.hid (HCP.out o.a HWA.out)
    have HPP : Hid (∀ w', Below w.heap.size w w' → PO (.returned (.tuple #[.agg #[.int .i64 (fdCopied f o o.a).kind, .int .i64 (fdCopied f o o.a).dst, .int .i64 (fdCopied f o o.a).a, .int .i64 (fdCopied f o o.a).b, .int .i64 (fdCopied f o o.a).c, .int .i64 (fdCopied f o o.a).imm], .bool true])) w') := Lib.hid (fun w' hb => by rw [← HPO.out, hoe]; exact ⟨rfl, hb⟩)
    clear hoe
    generalize fdCopied f o o.a = q at *
    go_wp2_with fail
    refine (HCP.out _ HF.out).mono ?_
    rintro e w2 ⟨rfl, hb⟩
    have hX' := (hb.block _ (lt_of_blk HX.out)).trans HX.out
    have hR' := (hb.block _ (lt_of_blk HR.out)).trans HR.out
    have hB' := bch HB.out hb
    have HX := Lib.hid hX'
    have HR := Lib.hid hR'
    have HB := Lib.hid hB'
    clear hX' hR' hB' hb
    clear c0 c1 c2 c3 c4 c5
    obtain ⟨r0, s0⟩ := cell_of_blk HR.out 0
    obtain ⟨r1, s1⟩ := cell_of_blk HR.out 1
    obtain ⟨r2, s2⟩ := cell_of_blk HR.out 2
    obtain ⟨r3, s3⟩ := cell_of_blk HR.out 3
    obtain ⟨r4, s4⟩ := cell_of_blk HR.out 4
    obtain ⟨r5, s5⟩ := cell_of_blk HR.out 5
    go_wp2_with fail
    have hr7 := (blk_set (blk_set (blk_set (blk_set (blk_set (blk_set HR.out 0 (.int .i64 q.kind)) 1 (.int .i64 q.dst)) 2 (.int .i64 q.a)) 3 (.int .i64 q.b)) 4 (.int .i64 q.c)) 5 (.int .i64 q.imm))
    have hB7 := ((((((HB.out.setCell (p := ⟨w.heap.size + 1, 0, none⟩) (by show w.heap.size ≤ w.heap.size + 1; omega) (.int .i64 q.kind)).setCell (p := ⟨w.heap.size + 1, 1, none⟩) (by show w.heap.size ≤ w.heap.size + 1; omega) (.int .i64 q.dst)).setCell (p := ⟨w.heap.size + 1, 2, none⟩) (by show w.heap.size ≤ w.heap.size + 1; omega) (.int .i64 q.a)).setCell (p := ⟨w.heap.size + 1, 3, none⟩) (by show w.heap.size ≤ w.heap.size + 1; omega) (.int .i64 q.b)).setCell (p := ⟨w.heap.size + 1, 4, none⟩) (by show w.heap.size ≤ w.heap.size + 1; omega) (.int .i64 q.c)).setCell (p := ⟨w.heap.size + 1, 5, none⟩) (by show w.heap.size ≤ w.heap.size + 1; omega) (.int .i64 q.imm))
    generalize ((((((w2.setCell ⟨w.heap.size + 1, 0, none⟩ (.int .i64 q.kind)).setCell ⟨w.heap.size + 1, 1, none⟩ (.int .i64 q.dst)).setCell ⟨w.heap.size + 1, 2, none⟩ (.int .i64 q.a)).setCell ⟨w.heap.size + 1, 3, none⟩ (.int .i64 q.b)).setCell ⟨w.heap.size + 1, 4, none⟩ (.int .i64 q.c)).setCell ⟨w.heap.size + 1, 5, none⟩ (.int .i64 q.imm)) = w7 at *
    have k0 : w7.cell? ⟨w.heap.size + 1, 0, none⟩ = some (.int .i64 q.kind) := (cell_of_blk hr7 0).1
    have k1 : w7.cell? ⟨w.heap.size + 1, 1, none⟩ = some (.int .i64 q.dst) := (cell_of_blk hr7 1).1
    have k2 : w7.cell? ⟨w.heap.size + 1, 2, none⟩ = some (.int .i64 q.a) := (cell_of_blk hr7 2).1
    have k3 : w7.cell? ⟨w.heap.size + 1, 3, none⟩ = some (.int .i64 q.b) := (cell_of_blk hr7 3).1
    have k4 : w7.cell? ⟨w.heap.size + 1, 4, none⟩ = some (.int .i64 q.c) := (cell_of_blk hr7 4).1
    have k5 : w7.cell? ⟨w.heap.size + 1, 5, none⟩ = some (.int .i64 q.imm) := (cell_of_blk hr7 5).1
    clear hr7 r0 r1 r2 r3 r4 r5 s0 s1 s2 s3 s4 s5
    refine bodyPost_ret (v := .tuple #[.agg #[.int .i64 q.kind, .int .i64 q.dst, .int .i64 q.a, .int .i64 q.b, .int .i64 q.c, .int .i64 q.imm], .bool true]) (by simp [results, Try.results56, go_sem, k0, k1, k2, k3, k4, k5]; try rfl) rfl ?_
    exact HPP.out _ hB7
  · have qi : (o.imm == 0) = false := by rw [beq_eq_false_iff_ne]; exact hi
    have hoe : fdOne f o = none := by unfold fdOne; rw [if_neg (by omega), if_neg (by omega), if_neg (by omega), if_neg (by omega), if_pos (by omega), if_neg hi]
    clear hk hi
    go_enter Try.func56, Try.ntmps56
    go_upto_region 1 with (fail)
    generalize (w.alloc (.cells #[.int .i64 o.kind, .int .i64 o.dst, .int .i64 o.a, .int .i64 o.b, .int .i64 o.c, .int .i64 o.imm] 41)).alloc (.cells #[.int .i64 0, .int .i64 0, .int .i64 0, .int .i64 0, .int .i64 0, .int .i64 0] 41) = w1 at *
    have HX := Lib.hid hX
    have HR := Lib.hid hR
    have HB := Lib.hid hB
    clear hX hR hB e1
    obtain ⟨c0, c1, c2, c3, c4, c5, _, _, _, _⟩ := op_cells_at HX.out
    have HPP : Hid (∀ w', Below w.heap.size w w' → PO (.returned (.tuple #[.agg #[.int .i64 o.kind, .int .i64 o.dst, .int .i64 o.a, .int .i64 o.b, .int .i64 o.c, .int .i64 o.imm], .bool false])) w') := Lib.hid (fun w' hb => by rw [← HPO.out, hoe]; exact ⟨rfl, hb⟩)
    clear hoe
    obtain ⟨r0, s0⟩ := cell_of_blk HR.out 0
    obtain ⟨r1, s1⟩ := cell_of_blk HR.out 1
    obtain ⟨r2, s2⟩ := cell_of_blk HR.out 2
    obtain ⟨r3, s3⟩ := cell_of_blk HR.out 3
    obtain ⟨r4, s4⟩ := cell_of_blk HR.out 4
    obtain ⟨r5, s5⟩ := cell_of_blk HR.out 5
    go_wp2_with fail
    clear c0 c1 c2 c3 c4 c5
    have hr7 := (blk_set (blk_set (blk_set (blk_set (blk_set (blk_set HR.out 0 (.int .i64 o.kind)) 1 (.int .i64 o.dst)) 2 (.int .i64 o.a)) 3 (.int .i64 o.b)) 4 (.int .i64 o.c)) 5 (.int .i64 o.imm))
    have hB7 := ((((((HB.out.setCell (p := ⟨w.heap.size + 1, 0, none⟩) (by show w.heap.size ≤ w.heap.size + 1; omega) (.int .i64 o.kind)).setCell (p := ⟨w.heap.size + 1, 1, none⟩) (by show w.heap.size ≤ w.heap.size + 1; omega) (.int .i64 o.dst)).setCell (p := ⟨w.heap.size + 1, 2, none⟩) (by show w.heap.size ≤ w.heap.size + 1; omega) (.int .i64 o.a)).setCell (p := ⟨w.heap.size + 1, 3, none⟩) (by show w.heap.size ≤ w.heap.size + 1; omega) (.int .i64 o.b)).setCell (p := ⟨w.heap.size + 1, 4, none⟩) (by show w.heap.size ≤ w.heap.size + 1; omega) (.int .i64 o.c)).setCell (p := ⟨w.heap.size + 1, 5, none⟩) (by show w.heap.size ≤ w.heap.size + 1; omega) (.int .i64 o.imm))
    generalize ((((((w1.setCell ⟨w.heap.size + 1, 0, none⟩ (.int .i64 o.kind)).setCell ⟨w.heap.size + 1, 1, none⟩ (.int .i64 o.dst)).setCell ⟨w.heap.size + 1, 2, none⟩ (.int .i64 o.a)).setCell ⟨w.heap.size + 1, 3, none⟩ (.int .i64 o.b)).setCell ⟨w.heap.size + 1, 4, none⟩ (.int .i64 o.c)).setCell ⟨w.heap.size + 1, 5, none⟩ (.int .i64 o.imm)) = w7 at *
    have k0 : w7.cell? ⟨w.heap.size + 1, 0, none⟩ = some (.int .i64 o.kind) := (cell_of_blk hr7 0).1
    have k1 : w7.cell? ⟨w.heap.size + 1, 1, none⟩ = some (.int .i64 o.dst) := (cell_of_blk hr7 1).1
    have k2 : w7.cell? ⟨w.heap.size + 1, 2, none⟩ = some (.int .i64 o.a) := (cell_of_blk hr7 2).1
    have k3 : w7.cell? ⟨w.heap.size + 1, 3, none⟩ = some (.int .i64 o.b) := (cell_of_blk hr7 3).1
    have k4 : w7.cell? ⟨w.heap.size + 1, 4, none⟩ = some (.int .i64 o.c) := (cell_of_blk hr7 4).1
    have k5 : w7.cell? ⟨w.heap.size + 1, 5, none⟩ = some (.int .i64 o.imm) := (cell_of_blk hr7 5).1
    clear hr7 r0 r1 r2 r3 r4 r5 s0 s1 s2 s3 s4 s5
    refine bodyPost_ret (v := .tuple #[.agg #[.int .i64 o.kind, .int .i64 o.dst, .int .i64 o.a, .int .i64 o.b, .int .i64 o.c, .int .i64 o.imm], .bool false]) (by simp [results, Try.results56, go_sem, k0, k1, k2, k3, k4, k5]; try rfl) rfl ?_
    exact HPP.out _ hB7
set_option maxRecDepth 100000 in
set_option maxHeartbeats 4000000 in
theorem fold_one_17 (F b n : Nat) (f : Int → Option Int) (o : Opn) (hf : o.fine) (w : World) (h : FoAt w F b n f) (hk : o.kind = 17) :
    Calls Try.prog 56 #[.pointer (some ⟨F, 0, none⟩), opVal o] w (OptPost (fdOne f o) o w) := by
  have HWA := Lib.hid (intR_lit hf.2.2.1)
  have HWB := Lib.hid (intR_lit hf.2.2.2.1)
  have HWC := Lib.hid (intR_lit hf.2.2.2.2.1)
  have HBS := Lib.hid (fun l z W h => fold_beside F b n f o hf l z W h)
  have HZB := Lib.hid (fun W h => fold_is F b n f o.b 0 HWB.out W h)
  have HOC := Lib.hid (fun W h => fold_is F b n f o.c 4294967295 HWC.out W h)
  have HZC := Lib.hid (fun W h => fold_is F b n f o.c 0 HWC.out W h)
  have HCP := Lib.hid (fun t ht W h => fold_copied F b n f o t ht W h)
  unfold CopPost opVal at HCP
  unfold OptPost opVal at HBS
  generalize hPO : OptPost (fdOne f o) o w = PO
  have HPO := Lib.hid hPO
  unfold opVal
  have e1 := alloc_size w (.cells #[.int .i64 o.kind, .int .i64 o.dst, .int .i64 o.a, .int .i64 o.b, .int .i64 o.c, .int .i64 o.imm] 41) rfl
  have hX := alloc_old (alloc_last w _ rfl (.cells #[.int .i64 o.kind, .int .i64 o.dst, .int .i64 o.a, .int .i64 o.b, .int .i64 o.c, .int .i64 o.imm] 41)) (.cells #[.int .i64 0, .int .i64 0, .int .i64 0, .int .i64 0, .int .i64 0, .int .i64 0] 41)
  have hR := alloc_last _ _ e1 (.cells #[.int .i64 0, .int .i64 0, .int .i64 0, .int .i64 0, .int .i64 0, .int .i64 0] 41)
  have hB := bal (bnew w (.cells #[.int .i64 o.kind, .int .i64 o.dst, .int .i64 o.a, .int .i64 o.b, .int .i64 o.c, .int .i64 o.imm] 41)) (.cells #[.int .i64 0, .int .i64 0, .int .i64 0, .int .i64 0, .int .i64 0, .int .i64 0] 41)
  have HF := Lib.hid (h.below hB)
  clear h hf hPO
  have q3 : (o.kind == 3) = false := by rw [beq_eq_false_iff_ne]; omega
  have q8 : (o.kind == 8) = false := by rw [beq_eq_false_iff_ne]; omega
  have q9 : (o.kind == 9) = false := by rw [beq_eq_false_iff_ne]; omega
  have q5 : (o.kind == 5) = false := by rw [beq_eq_false_iff_ne]; omega
  have q7 : (o.kind == 7) = false := by rw [beq_eq_false_iff_ne]; omega
  have q4 : (o.kind == 4) = false := by rw [beq_eq_false_iff_ne]; omega
  have q11 : (o.kind == 11) = false := by rw [beq_eq_false_iff_ne]; omega
  have q12 : (o.kind == 12) = false := by rw [beq_eq_false_iff_ne]; omega
  have q13 : (o.kind == 13) = false := by rw [beq_eq_false_iff_ne]; omega
  have q17 : (o.kind == 17) = true := by rw [beq_iff_eq]; exact hk
  cases hz : fdIs f o.c 4294967295 with
  | true =>
    rw [hz] at HOC
    have hoe : fdOne f o = some (fdCopied f o o.a) := by unfold fdOne; rw [if_neg (by omega), if_neg (by omega), if_neg (by omega), if_neg (by omega), if_neg (by omega), if_pos (by omega), if_pos (Or.inl hz)]
    clear hk
    go_enter Try.func56, Try.ntmps56
    go_upto_region 1 with (fail)
    generalize (w.alloc (.cells #[.int .i64 o.kind, .int .i64 o.dst, .int .i64 o.a, .int .i64 o.b, .int .i64 o.c, .int .i64 o.imm] 41)).alloc (.cells #[.int .i64 0, .int .i64 0, .int .i64 0, .int .i64 0, .int .i64 0, .int .i64 0] 41) = w1 at *
    have HX := Lib.hid hX
    have HR := Lib.hid hR
    have HB := Lib.hid hB
    clear hX hR hB e1
    obtain ⟨c0, c1, c2, c3, c4, c5, _, _, _, _⟩ := op_cells_at HX.out
    go_wp2_with fail
    refine (HOC.out _ HF.out).mono ?_
    rintro e w' ⟨rfl, rfl⟩
    replace HCP := Lib.hid (HCP.out o.a HWA.out)
    have HPP : Hid (∀ w', Below w.heap.size w w' → PO (.returned (.tuple #[.agg #[.int .i64 (fdCopied f o o.a).kind, .int .i64 (fdCopied f o o.a).dst, .int .i64 (fdCopied f o o.a).a, .int .i64 (fdCopied f o o.a).b, .int .i64 (fdCopied f o o.a).c, .int .i64 (fdCopied f o o.a).imm], .bool true])) w') := Lib.hid (fun w' hb => by rw [← HPO.out, hoe]; exact ⟨rfl, hb⟩)
    clear hoe
    generalize fdCopied f o o.a = q at *
    go_wp2_with fail
    refine (HCP.out _ HF.out).mono ?_
    rintro e w2 ⟨rfl, hb⟩
    have hX' := (hb.block _ (lt_of_blk HX.out)).trans HX.out
    have hR' := (hb.block _ (lt_of_blk HR.out)).trans HR.out
    have hB' := bch HB.out hb
    have HX := Lib.hid hX'
    have HR := Lib.hid hR'
    have HB := Lib.hid hB'
    clear hX' hR' hB' hb
    clear c0 c1 c2 c3 c4 c5
    obtain ⟨r0, s0⟩ := cell_of_blk HR.out 0
    obtain ⟨r1, s1⟩ := cell_of_blk HR.out 1
    obtain ⟨r2, s2⟩ := cell_of_blk HR.out 2
    obtain ⟨r3, s3⟩ := cell_of_blk HR.out 3
    obtain ⟨r4, s4⟩ := cell_of_blk HR.out 4
    obtain ⟨r5, s5⟩ := cell_of_blk HR.out 5
    go_wp2_with fail
    have hr7 := (blk_set (blk_set (blk_set (blk_set (blk_set (blk_set HR.out 0 (.int .i64 q.kind)) 1 (.int .i64 q.dst)) 2 (.int .i64 q.a)) 3 (.int .i64 q.b)) 4 (.int .i64 q.c)) 5 (.int .i64 q.imm))
    have hB7 := ((((((HB.out.setCell (p := ⟨w.heap.size + 1, 0, none⟩) (by show w.heap.size ≤ w.heap.size + 1; omega) (.int .i64 q.kind)).setCell (p := ⟨w.heap.size + 1, 1, none⟩) (by show w.heap.size ≤ w.heap.size + 1; omega) (.int .i64 q.dst)).setCell (p := ⟨w.heap.size + 1, 2, none⟩) (by show w.heap.size ≤ w.heap.size + 1; omega) (.int .i64 q.a)).setCell (p := ⟨w.heap.size + 1, 3, none⟩) (by show w.heap.size ≤ w.heap.size + 1; omega) (.int .i64 q.b)).setCell (p := ⟨w.heap.size + 1, 4, none⟩) (by show w.heap.size ≤ w.heap.size + 1; omega) (.int .i64 q.c)).setCell (p := ⟨w.heap.size + 1, 5, none⟩) (by show w.heap.size ≤ w.heap.size + 1; omega) (.int .i64 q.imm))
    generalize ((((((w2.setCell ⟨w.heap.size + 1, 0, none⟩ (.int .i64 q.kind)).setCell ⟨w.heap.size + 1, 1, none⟩ (.int .i64 q.dst)).setCell ⟨w.heap.size + 1, 2, none⟩ (.int .i64 q.a)).setCell ⟨w.heap.size + 1, 3, none⟩ (.int .i64 q.b)).setCell ⟨w.heap.size + 1, 4, none⟩ (.int .i64 q.c)).setCell ⟨w.heap.size + 1, 5, none⟩ (.int .i64 q.imm)) = w7 at *
    have k0 : w7.cell? ⟨w.heap.size + 1, 0, none⟩ = some (.int .i64 q.kind) := (cell_of_blk hr7 0).1
    have k1 : w7.cell? ⟨w.heap.size + 1, 1, none⟩ = some (.int .i64 q.dst) := (cell_of_blk hr7 1).1
    have k2 : w7.cell? ⟨w.heap.size + 1, 2, none⟩ = some (.int .i64 q.a) := (cell_of_blk hr7 2).1
    have k3 : w7.cell? ⟨w.heap.size + 1, 3, none⟩ = some (.int .i64 q.b) := (cell_of_blk hr7 3).1
    have k4 : w7.cell? ⟨w.heap.size + 1, 4, none⟩ = some (.int .i64 q.c) := (cell_of_blk hr7 4).1
    have k5 : w7.cell? ⟨w.heap.size + 1, 5, none⟩ = some (.int .i64 q.imm) := (cell_of_blk hr7 5).1
    clear hr7 r0 r1 r2 r3 r4 r5 s0 s1 s2 s3 s4 s5
    refine bodyPost_ret (v := .tuple #[.agg #[.int .i64 q.kind, .int .i64 q.dst, .int .i64 q.a, .int .i64 q.b, .int .i64 q.c, .int .i64 q.imm], .bool true]) (by simp [results, Try.results56, go_sem, k0, k1, k2, k3, k4, k5]; try rfl) rfl ?_
    exact HPP.out _ hB7
  | false =>
    rw [hz] at HOC
    by_cases hab : o.a = o.b
    · have qab : (o.a == o.b) = true := by rw [beq_iff_eq]; exact hab
      have hoe : fdOne f o = some (fdCopied f o o.a) := by unfold fdOne; rw [if_neg (by omega), if_neg (by omega), if_neg (by omega), if_neg (by omega), if_neg (by omega), if_pos (by omega), if_pos (Or.inr hab)]
      clear hk hab
      go_enter Try.func56, Try.ntmps56
      go_upto_region 1 with (fail)
      generalize (w.alloc (.cells #[.int .i64 o.kind, .int .i64 o.dst, .int .i64 o.a, .int .i64 o.b, .int .i64 o.c, .int .i64 o.imm] 41)).alloc (.cells #[.int .i64 0, .int .i64 0, .int .i64 0, .int .i64 0, .int .i64 0, .int .i64 0] 41) = w1 at *
      have HX := Lib.hid hX
      have HR := Lib.hid hR
      have HB := Lib.hid hB
      clear hX hR hB e1
      obtain ⟨c0, c1, c2, c3, c4, c5, _, _, _, _⟩ := op_cells_at HX.out
      go_wp2_with fail
      refine (HOC.out _ HF.out).mono ?_
      rintro e w' ⟨rfl, rfl⟩
      replace HCP := Lib.hid (HCP.out o.a HWA.out)
      have HPP : Hid (∀ w', Below w.heap.size w w' → PO (.returned (.tuple #[.agg #[.int .i64 (fdCopied f o o.a).kind, .int .i64 (fdCopied f o o.a).dst, .int .i64 (fdCopied f o o.a).a, .int .i64 (fdCopied f o o.a).b, .int .i64 (fdCopied f o o.a).c, .int .i64 (fdCopied f o o.a).imm], .bool true])) w') := Lib.hid (fun w' hb => by rw [← HPO.out, hoe]; exact ⟨rfl, hb⟩)
      clear hoe
      generalize fdCopied f o o.a = q at *
      go_wp2_with fail
      refine (HCP.out _ HF.out).mono ?_
      rintro e w2 ⟨rfl, hb⟩
      have hX' := (hb.block _ (lt_of_blk HX.out)).trans HX.out
      have hR' := (hb.block _ (lt_of_blk HR.out)).trans HR.out
      have hB' := bch HB.out hb
      have HX := Lib.hid hX'
      have HR := Lib.hid hR'
      have HB := Lib.hid hB'
      clear hX' hR' hB' hb
      clear c0 c1 c2 c3 c4 c5
      obtain ⟨r0, s0⟩ := cell_of_blk HR.out 0
      obtain ⟨r1, s1⟩ := cell_of_blk HR.out 1
      obtain ⟨r2, s2⟩ := cell_of_blk HR.out 2
      obtain ⟨r3, s3⟩ := cell_of_blk HR.out 3
      obtain ⟨r4, s4⟩ := cell_of_blk HR.out 4
      obtain ⟨r5, s5⟩ := cell_of_blk HR.out 5
      go_wp2_with fail
      have hr7 := (blk_set (blk_set (blk_set (blk_set (blk_set (blk_set HR.out 0 (.int .i64 q.kind)) 1 (.int .i64 q.dst)) 2 (.int .i64 q.a)) 3 (.int .i64 q.b)) 4 (.int .i64 q.c)) 5 (.int .i64 q.imm))
      have hB7 := ((((((HB.out.setCell (p := ⟨w.heap.size + 1, 0, none⟩) (by show w.heap.size ≤ w.heap.size + 1; omega) (.int .i64 q.kind)).setCell (p := ⟨w.heap.size + 1, 1, none⟩) (by show w.heap.size ≤ w.heap.size + 1; omega) (.int .i64 q.dst)).setCell (p := ⟨w.heap.size + 1, 2, none⟩) (by show w.heap.size ≤ w.heap.size + 1; omega) (.int .i64 q.a)).setCell (p := ⟨w.heap.size + 1, 3, none⟩) (by show w.heap.size ≤ w.heap.size + 1; omega) (.int .i64 q.b)).setCell (p := ⟨w.heap.size + 1, 4, none⟩) (by show w.heap.size ≤ w.heap.size + 1; omega) (.int .i64 q.c)).setCell (p := ⟨w.heap.size + 1, 5, none⟩) (by show w.heap.size ≤ w.heap.size + 1; omega) (.int .i64 q.imm))
      generalize ((((((w2.setCell ⟨w.heap.size + 1, 0, none⟩ (.int .i64 q.kind)).setCell ⟨w.heap.size + 1, 1, none⟩ (.int .i64 q.dst)).setCell ⟨w.heap.size + 1, 2, none⟩ (.int .i64 q.a)).setCell ⟨w.heap.size + 1, 3, none⟩ (.int .i64 q.b)).setCell ⟨w.heap.size + 1, 4, none⟩ (.int .i64 q.c)).setCell ⟨w.heap.size + 1, 5, none⟩ (.int .i64 q.imm)) = w7 at *
      have k0 : w7.cell? ⟨w.heap.size + 1, 0, none⟩ = some (.int .i64 q.kind) := (cell_of_blk hr7 0).1
      have k1 : w7.cell? ⟨w.heap.size + 1, 1, none⟩ = some (.int .i64 q.dst) := (cell_of_blk hr7 1).1
      have k2 : w7.cell? ⟨w.heap.size + 1, 2, none⟩ = some (.int .i64 q.a) := (cell_of_blk hr7 2).1
      have k3 : w7.cell? ⟨w.heap.size + 1, 3, none⟩ = some (.int .i64 q.b) := (cell_of_blk hr7 3).1
      have k4 : w7.cell? ⟨w.heap.size + 1, 4, none⟩ = some (.int .i64 q.c) := (cell_of_blk hr7 4).1
      have k5 : w7.cell? ⟨w.heap.size + 1, 5, none⟩ = some (.int .i64 q.imm) := (cell_of_blk hr7 5).1
      clear hr7 r0 r1 r2 r3 r4 r5 s0 s1 s2 s3 s4 s5
      refine bodyPost_ret (v := .tuple #[.agg #[.int .i64 q.kind, .int .i64 q.dst, .int .i64 q.a, .int .i64 q.b, .int .i64 q.c, .int .i64 q.imm], .bool true]) (by simp [results, Try.results56, go_sem, k0, k1, k2, k3, k4, k5]; try rfl) rfl ?_
      exact HPP.out _ hB7
    · have qab : (o.a == o.b) = false := by rw [beq_eq_false_iff_ne]; exact hab
      have hno : ¬ (fdIs f o.c 4294967295 = true ∨ o.a = o.b) := fun h => by
        rcases h with h | h
        · rw [hz] at h; cases h
        · exact hab h
      cases hzc : fdIs f o.c 0 with
      | true =>
        rw [hzc] at HZC
        have hoe : fdOne f o = some (fdCopied f o o.b) := by unfold fdOne; rw [if_neg (by omega), if_neg (by omega), if_neg (by omega), if_neg (by omega), if_neg (by omega), if_pos (by omega), if_neg hno, if_pos hzc]
        clear hk hab hno
        go_enter Try.func56, Try.ntmps56
        go_upto_region 1 with (fail)
        generalize (w.alloc (.cells #[.int .i64 o.kind, .int .i64 o.dst, .int .i64 o.a, .int .i64 o.b, .int .i64 o.c, .int .i64 o.imm] 41)).alloc (.cells #[.int .i64 0, .int .i64 0, .int .i64 0, .int .i64 0, .int .i64 0, .int .i64 0] 41) = w1 at *
        have HX := Lib.hid hX
        have HR := Lib.hid hR
        have HB := Lib.hid hB
        clear hX hR hB e1
        obtain ⟨c0, c1, c2, c3, c4, c5, _, _, _, _⟩ := op_cells_at HX.out
        go_wp2_with fail
        refine (HOC.out _ HF.out).mono ?_
        rintro e w' ⟨rfl, rfl⟩
        go_wp2_with fail
        refine (HZC.out _ HF.out).mono ?_
        rintro e w' ⟨rfl, rfl⟩
        replace HCP := Lib.hid (HCP.out o.b HWB.out)
        have HPP : Hid (∀ w', Below w.heap.size w w' → PO (.returned (.tuple #[.agg #[.int .i64 (fdCopied f o o.b).kind, .int .i64 (fdCopied f o o.b).dst, .int .i64 (fdCopied f o o.b).a, .int .i64 (fdCopied f o o.b).b, .int .i64 (fdCopied f o o.b).c, .int .i64 (fdCopied f o o.b).imm], .bool true])) w') := Lib.hid (fun w' hb => by rw [← HPO.out, hoe]; exact ⟨rfl, hb⟩)
        clear hoe
        generalize fdCopied f o o.b = q at *
        go_wp2_with fail
        refine (HCP.out _ HF.out).mono ?_
        rintro e w2 ⟨rfl, hb⟩
        have hX' := (hb.block _ (lt_of_blk HX.out)).trans HX.out
        have hR' := (hb.block _ (lt_of_blk HR.out)).trans HR.out
        have hB' := bch HB.out hb
        have HX := Lib.hid hX'
        have HR := Lib.hid hR'
        have HB := Lib.hid hB'
        clear hX' hR' hB' hb
        clear c0 c1 c2 c3 c4 c5
        obtain ⟨r0, s0⟩ := cell_of_blk HR.out 0
        obtain ⟨r1, s1⟩ := cell_of_blk HR.out 1
        obtain ⟨r2, s2⟩ := cell_of_blk HR.out 2
        obtain ⟨r3, s3⟩ := cell_of_blk HR.out 3
        obtain ⟨r4, s4⟩ := cell_of_blk HR.out 4
        obtain ⟨r5, s5⟩ := cell_of_blk HR.out 5
        go_wp2_with fail
        have hr7 := (blk_set (blk_set (blk_set (blk_set (blk_set (blk_set HR.out 0 (.int .i64 q.kind)) 1 (.int .i64 q.dst)) 2 (.int .i64 q.a)) 3 (.int .i64 q.b)) 4 (.int .i64 q.c)) 5 (.int .i64 q.imm))
        have hB7 := ((((((HB.out.setCell (p := ⟨w.heap.size + 1, 0, none⟩) (by show w.heap.size ≤ w.heap.size + 1; omega) (.int .i64 q.kind)).setCell (p := ⟨w.heap.size + 1, 1, none⟩) (by show w.heap.size ≤ w.heap.size + 1; omega) (.int .i64 q.dst)).setCell (p := ⟨w.heap.size + 1, 2, none⟩) (by show w.heap.size ≤ w.heap.size + 1; omega) (.int .i64 q.a)).setCell (p := ⟨w.heap.size + 1, 3, none⟩) (by show w.heap.size ≤ w.heap.size + 1; omega) (.int .i64 q.b)).setCell (p := ⟨w.heap.size + 1, 4, none⟩) (by show w.heap.size ≤ w.heap.size + 1; omega) (.int .i64 q.c)).setCell (p := ⟨w.heap.size + 1, 5, none⟩) (by show w.heap.size ≤ w.heap.size + 1; omega) (.int .i64 q.imm))
        generalize ((((((w2.setCell ⟨w.heap.size + 1, 0, none⟩ (.int .i64 q.kind)).setCell ⟨w.heap.size + 1, 1, none⟩ (.int .i64 q.dst)).setCell ⟨w.heap.size + 1, 2, none⟩ (.int .i64 q.a)).setCell ⟨w.heap.size + 1, 3, none⟩ (.int .i64 q.b)).setCell ⟨w.heap.size + 1, 4, none⟩ (.int .i64 q.c)).setCell ⟨w.heap.size + 1, 5, none⟩ (.int .i64 q.imm)) = w7 at *
        have k0 : w7.cell? ⟨w.heap.size + 1, 0, none⟩ = some (.int .i64 q.kind) := (cell_of_blk hr7 0).1
        have k1 : w7.cell? ⟨w.heap.size + 1, 1, none⟩ = some (.int .i64 q.dst) := (cell_of_blk hr7 1).1
        have k2 : w7.cell? ⟨w.heap.size + 1, 2, none⟩ = some (.int .i64 q.a) := (cell_of_blk hr7 2).1
        have k3 : w7.cell? ⟨w.heap.size + 1, 3, none⟩ = some (.int .i64 q.b) := (cell_of_blk hr7 3).1
        have k4 : w7.cell? ⟨w.heap.size + 1, 4, none⟩ = some (.int .i64 q.c) := (cell_of_blk hr7 4).1
        have k5 : w7.cell? ⟨w.heap.size + 1, 5, none⟩ = some (.int .i64 q.imm) := (cell_of_blk hr7 5).1
        clear hr7 r0 r1 r2 r3 r4 r5 s0 s1 s2 s3 s4 s5
        refine bodyPost_ret (v := .tuple #[.agg #[.int .i64 q.kind, .int .i64 q.dst, .int .i64 q.a, .int .i64 q.b, .int .i64 q.c, .int .i64 q.imm], .bool true]) (by simp [results, Try.results56, go_sem, k0, k1, k2, k3, k4, k5]; try rfl) rfl ?_
        exact HPP.out _ hB7
      | false =>
        rw [hzc] at HZC
        have hoe : fdOne f o = none := by unfold fdOne; rw [if_neg (by omega), if_neg (by omega), if_neg (by omega), if_neg (by omega), if_neg (by omega), if_pos (by omega), if_neg hno, if_neg (by rw [hzc]; decide)]
        clear hk hab hno
        go_enter Try.func56, Try.ntmps56
        go_upto_region 1 with (fail)
        generalize (w.alloc (.cells #[.int .i64 o.kind, .int .i64 o.dst, .int .i64 o.a, .int .i64 o.b, .int .i64 o.c, .int .i64 o.imm] 41)).alloc (.cells #[.int .i64 0, .int .i64 0, .int .i64 0, .int .i64 0, .int .i64 0, .int .i64 0] 41) = w1 at *
        have HX := Lib.hid hX
        have HR := Lib.hid hR
        have HB := Lib.hid hB
        clear hX hR hB e1
        obtain ⟨c0, c1, c2, c3, c4, c5, _, _, _, _⟩ := op_cells_at HX.out
        go_wp2_with fail
        refine (HOC.out _ HF.out).mono ?_
        rintro e w' ⟨rfl, rfl⟩
        go_wp2_with fail
        refine (HZC.out _ HF.out).mono ?_
        rintro e w' ⟨rfl, rfl⟩
        have HPP : Hid (∀ w', Below w.heap.size w w' → PO (.returned (.tuple #[.agg #[.int .i64 o.kind, .int .i64 o.dst, .int .i64 o.a, .int .i64 o.b, .int .i64 o.c, .int .i64 o.imm], .bool false])) w') := Lib.hid (fun w' hb => by rw [← HPO.out, hoe]; exact ⟨rfl, hb⟩)
        clear hoe
        obtain ⟨r0, s0⟩ := cell_of_blk HR.out 0
        obtain ⟨r1, s1⟩ := cell_of_blk HR.out 1
        obtain ⟨r2, s2⟩ := cell_of_blk HR.out 2
        obtain ⟨r3, s3⟩ := cell_of_blk HR.out 3
        obtain ⟨r4, s4⟩ := cell_of_blk HR.out 4
        obtain ⟨r5, s5⟩ := cell_of_blk HR.out 5
        go_wp2_with fail
        clear c0 c1 c2 c3 c4 c5
        have hr7 := (blk_set (blk_set (blk_set (blk_set (blk_set (blk_set HR.out 0 (.int .i64 o.kind)) 1 (.int .i64 o.dst)) 2 (.int .i64 o.a)) 3 (.int .i64 o.b)) 4 (.int .i64 o.c)) 5 (.int .i64 o.imm))
        have hB7 := ((((((HB.out.setCell (p := ⟨w.heap.size + 1, 0, none⟩) (by show w.heap.size ≤ w.heap.size + 1; omega) (.int .i64 o.kind)).setCell (p := ⟨w.heap.size + 1, 1, none⟩) (by show w.heap.size ≤ w.heap.size + 1; omega) (.int .i64 o.dst)).setCell (p := ⟨w.heap.size + 1, 2, none⟩) (by show w.heap.size ≤ w.heap.size + 1; omega) (.int .i64 o.a)).setCell (p := ⟨w.heap.size + 1, 3, none⟩) (by show w.heap.size ≤ w.heap.size + 1; omega) (.int .i64 o.b)).setCell (p := ⟨w.heap.size + 1, 4, none⟩) (by show w.heap.size ≤ w.heap.size + 1; omega) (.int .i64 o.c)).setCell (p := ⟨w.heap.size + 1, 5, none⟩) (by show w.heap.size ≤ w.heap.size + 1; omega) (.int .i64 o.imm))
        generalize ((((((w1.setCell ⟨w.heap.size + 1, 0, none⟩ (.int .i64 o.kind)).setCell ⟨w.heap.size + 1, 1, none⟩ (.int .i64 o.dst)).setCell ⟨w.heap.size + 1, 2, none⟩ (.int .i64 o.a)).setCell ⟨w.heap.size + 1, 3, none⟩ (.int .i64 o.b)).setCell ⟨w.heap.size + 1, 4, none⟩ (.int .i64 o.c)).setCell ⟨w.heap.size + 1, 5, none⟩ (.int .i64 o.imm)) = w7 at *
        have k0 : w7.cell? ⟨w.heap.size + 1, 0, none⟩ = some (.int .i64 o.kind) := (cell_of_blk hr7 0).1
        have k1 : w7.cell? ⟨w.heap.size + 1, 1, none⟩ = some (.int .i64 o.dst) := (cell_of_blk hr7 1).1
        have k2 : w7.cell? ⟨w.heap.size + 1, 2, none⟩ = some (.int .i64 o.a) := (cell_of_blk hr7 2).1
        have k3 : w7.cell? ⟨w.heap.size + 1, 3, none⟩ = some (.int .i64 o.b) := (cell_of_blk hr7 3).1
        have k4 : w7.cell? ⟨w.heap.size + 1, 4, none⟩ = some (.int .i64 o.c) := (cell_of_blk hr7 4).1
        have k5 : w7.cell? ⟨w.heap.size + 1, 5, none⟩ = some (.int .i64 o.imm) := (cell_of_blk hr7 5).1
        clear hr7 r0 r1 r2 r3 r4 r5 s0 s1 s2 s3 s4 s5
        refine bodyPost_ret (v := .tuple #[.agg #[.int .i64 o.kind, .int .i64 o.dst, .int .i64 o.a, .int .i64 o.b, .int .i64 o.c, .int .i64 o.imm], .bool false]) (by simp [results, Try.results56, go_sem, k0, k1, k2, k3, k4, k5]; try rfl) rfl ?_
        exact HPP.out _ hB7
set_option maxRecDepth 100000 in
set_option maxHeartbeats 4000000 in
theorem fold_one_no (F b n : Nat) (f : Int → Option Int) (o : Opn) (hf : o.fine) (w : World) (h : FoAt w F b n f) (hk : o.kind ≠ 3 ∧ o.kind ≠ 8 ∧ o.kind ≠ 9 ∧ o.kind ≠ 5 ∧ o.kind ≠ 7 ∧ o.kind ≠ 4 ∧ o.kind ≠ 11 ∧ o.kind ≠ 12 ∧ o.kind ≠ 13 ∧ o.kind ≠ 17) :
    Calls Try.prog 56 #[.pointer (some ⟨F, 0, none⟩), opVal o] w (OptPost (fdOne f o) o w) := by
  have HWA := Lib.hid (intR_lit hf.2.2.1)
  have HWB := Lib.hid (intR_lit hf.2.2.2.1)
  have HWC := Lib.hid (intR_lit hf.2.2.2.2.1)
  have HBS := Lib.hid (fun l z W h => fold_beside F b n f o hf l z W h)
  have HZB := Lib.hid (fun W h => fold_is F b n f o.b 0 HWB.out W h)
  have HOC := Lib.hid (fun W h => fold_is F b n f o.c 4294967295 HWC.out W h)
  have HZC := Lib.hid (fun W h => fold_is F b n f o.c 0 HWC.out W h)
  have HCP := Lib.hid (fun t ht W h => fold_copied F b n f o t ht W h)
  unfold CopPost opVal at HCP
  unfold OptPost opVal at HBS
  generalize hPO : OptPost (fdOne f o) o w = PO
  have HPO := Lib.hid hPO
  unfold opVal
  have e1 := alloc_size w (.cells #[.int .i64 o.kind, .int .i64 o.dst, .int .i64 o.a, .int .i64 o.b, .int .i64 o.c, .int .i64 o.imm] 41) rfl
  have hX := alloc_old (alloc_last w _ rfl (.cells #[.int .i64 o.kind, .int .i64 o.dst, .int .i64 o.a, .int .i64 o.b, .int .i64 o.c, .int .i64 o.imm] 41)) (.cells #[.int .i64 0, .int .i64 0, .int .i64 0, .int .i64 0, .int .i64 0, .int .i64 0] 41)
  have hR := alloc_last _ _ e1 (.cells #[.int .i64 0, .int .i64 0, .int .i64 0, .int .i64 0, .int .i64 0, .int .i64 0] 41)
  have hB := bal (bnew w (.cells #[.int .i64 o.kind, .int .i64 o.dst, .int .i64 o.a, .int .i64 o.b, .int .i64 o.c, .int .i64 o.imm] 41)) (.cells #[.int .i64 0, .int .i64 0, .int .i64 0, .int .i64 0, .int .i64 0, .int .i64 0] 41)
  have HF := Lib.hid (h.below hB)
  clear h hf hPO
  have q3 : (o.kind == 3) = false := by rw [beq_eq_false_iff_ne]; omega
  have q8 : (o.kind == 8) = false := by rw [beq_eq_false_iff_ne]; omega
  have q9 : (o.kind == 9) = false := by rw [beq_eq_false_iff_ne]; omega
  have q5 : (o.kind == 5) = false := by rw [beq_eq_false_iff_ne]; omega
  have q7 : (o.kind == 7) = false := by rw [beq_eq_false_iff_ne]; omega
  have q4 : (o.kind == 4) = false := by rw [beq_eq_false_iff_ne]; omega
  have q11 : (o.kind == 11) = false := by rw [beq_eq_false_iff_ne]; omega
  have q12 : (o.kind == 12) = false := by rw [beq_eq_false_iff_ne]; omega
  have q13 : (o.kind == 13) = false := by rw [beq_eq_false_iff_ne]; omega
  have q17 : (o.kind == 17) = false := by rw [beq_eq_false_iff_ne]; omega
  have hoe : fdOne f o = none := by unfold fdOne; rw [if_neg (by omega), if_neg (by omega), if_neg (by omega), if_neg (by omega), if_neg (by omega), if_neg (by omega)]
  have HPP : Hid (∀ w', Below w.heap.size w w' → PO (.returned (.tuple #[.agg #[.int .i64 o.kind, .int .i64 o.dst, .int .i64 o.a, .int .i64 o.b, .int .i64 o.c, .int .i64 o.imm], .bool false])) w') := Lib.hid (fun w' hb => by rw [← HPO.out, hoe]; exact ⟨rfl, hb⟩)
  clear hoe hk
  go_enter Try.func56, Try.ntmps56
  go_upto_region 1 with (fail)
  generalize (w.alloc (.cells #[.int .i64 o.kind, .int .i64 o.dst, .int .i64 o.a, .int .i64 o.b, .int .i64 o.c, .int .i64 o.imm] 41)).alloc (.cells #[.int .i64 0, .int .i64 0, .int .i64 0, .int .i64 0, .int .i64 0, .int .i64 0] 41) = w1 at *
  have HX := Lib.hid hX
  have HR := Lib.hid hR
  have HB := Lib.hid hB
  clear hX hR hB e1
  obtain ⟨c0, c1, c2, c3, c4, c5, _, _, _, _⟩ := op_cells_at HX.out
  obtain ⟨r0, s0⟩ := cell_of_blk HR.out 0
  obtain ⟨r1, s1⟩ := cell_of_blk HR.out 1
  obtain ⟨r2, s2⟩ := cell_of_blk HR.out 2
  obtain ⟨r3, s3⟩ := cell_of_blk HR.out 3
  obtain ⟨r4, s4⟩ := cell_of_blk HR.out 4
  obtain ⟨r5, s5⟩ := cell_of_blk HR.out 5
  go_wp2_with fail
  clear c0 c1 c2 c3 c4 c5
  have hr7 := (blk_set (blk_set (blk_set (blk_set (blk_set (blk_set HR.out 0 (.int .i64 o.kind)) 1 (.int .i64 o.dst)) 2 (.int .i64 o.a)) 3 (.int .i64 o.b)) 4 (.int .i64 o.c)) 5 (.int .i64 o.imm))
  have hB7 := ((((((HB.out.setCell (p := ⟨w.heap.size + 1, 0, none⟩) (by show w.heap.size ≤ w.heap.size + 1; omega) (.int .i64 o.kind)).setCell (p := ⟨w.heap.size + 1, 1, none⟩) (by show w.heap.size ≤ w.heap.size + 1; omega) (.int .i64 o.dst)).setCell (p := ⟨w.heap.size + 1, 2, none⟩) (by show w.heap.size ≤ w.heap.size + 1; omega) (.int .i64 o.a)).setCell (p := ⟨w.heap.size + 1, 3, none⟩) (by show w.heap.size ≤ w.heap.size + 1; omega) (.int .i64 o.b)).setCell (p := ⟨w.heap.size + 1, 4, none⟩) (by show w.heap.size ≤ w.heap.size + 1; omega) (.int .i64 o.c)).setCell (p := ⟨w.heap.size + 1, 5, none⟩) (by show w.heap.size ≤ w.heap.size + 1; omega) (.int .i64 o.imm))
  generalize ((((((w1.setCell ⟨w.heap.size + 1, 0, none⟩ (.int .i64 o.kind)).setCell ⟨w.heap.size + 1, 1, none⟩ (.int .i64 o.dst)).setCell ⟨w.heap.size + 1, 2, none⟩ (.int .i64 o.a)).setCell ⟨w.heap.size + 1, 3, none⟩ (.int .i64 o.b)).setCell ⟨w.heap.size + 1, 4, none⟩ (.int .i64 o.c)).setCell ⟨w.heap.size + 1, 5, none⟩ (.int .i64 o.imm)) = w7 at *
  have k0 : w7.cell? ⟨w.heap.size + 1, 0, none⟩ = some (.int .i64 o.kind) := (cell_of_blk hr7 0).1
  have k1 : w7.cell? ⟨w.heap.size + 1, 1, none⟩ = some (.int .i64 o.dst) := (cell_of_blk hr7 1).1
  have k2 : w7.cell? ⟨w.heap.size + 1, 2, none⟩ = some (.int .i64 o.a) := (cell_of_blk hr7 2).1
  have k3 : w7.cell? ⟨w.heap.size + 1, 3, none⟩ = some (.int .i64 o.b) := (cell_of_blk hr7 3).1
  have k4 : w7.cell? ⟨w.heap.size + 1, 4, none⟩ = some (.int .i64 o.c) := (cell_of_blk hr7 4).1
  have k5 : w7.cell? ⟨w.heap.size + 1, 5, none⟩ = some (.int .i64 o.imm) := (cell_of_blk hr7 5).1
  clear hr7 r0 r1 r2 r3 r4 r5 s0 s1 s2 s3 s4 s5
  refine bodyPost_ret (v := .tuple #[.agg #[.int .i64 o.kind, .int .i64 o.dst, .int .i64 o.a, .int .i64 o.b, .int .i64 o.c, .int .i64 o.imm], .bool false]) (by simp [results, Try.results56, go_sem, k0, k1, k2, k3, k4, k5]; try rfl) rfl ?_
  exact HPP.out _ hB7
end Go.Proofs.Ytfadeipdepamlaa
