/- Parts of a proof, joined. No condition but those that each theorem names. -/
import Derived.WalkKit
import Derived.OpenShut
import Derived.Below
import Derived.Lib.Hide
import Derived.Laws.OwnMore
import Derived.Deep.QuietTactic
import Derived.Deep.AppendLies
import Derived.ProofKit
import Derived.SizedLaws
import Derived.Test.YtfadeipdepamlaaProg
import Derived.Handy
import Derived.Deep.RegionHeld3
import Derived.BigQuiet
import Derived.Maps.AppendAt
import Derived.Maps.RangeWalk
import Derived.Maps.OwnSet
import Derived.StillTailTactics
import Derived.Laws.CopyOwn
import Derived.Lib.BufferWrite
import Derived.OrdersHeld
import Derived.RegionTactic
import Derived.Deep.DeepCutAuto
import Derived.Test.YtfadeipdepamlaaSeG0e0
import Derived.Test.YtfadeipdepamlaaSeG0e1
import Derived.Test.YtfadeipdepamlaaSeG0e2
import Derived.Test.YtfadeipdepamlaaSeG0e4
import Derived.Test.YtfadeipdepamlaaSeIrC
import Derived.Test.YtfadeipdepamlaaSeG1e5
import Derived.Test.YtfadeipdepamlaaSeG1e6
import Derived.Test.YtfadeipdepamlaaSeG0e11
import Derived.Test.YtfadeipdepamlaaSeG1e13
import Derived.Test.YtfadeipdepamlaaSeG1e14
import Derived.Test.YtfadeipdepamlaaSeFoldM
import Derived.Test.YtfadeipdepamlaaSeFoldA
namespace Go.Proofs.Ytfadeipdepamlaa
open Go.RowKit Go.Maps
set_option linter.unusedVariables false
theorem beside_rest {f : Int → Option Int} {o : Opn} {lets : Int} {zero : Bool} (h : zero = false ∨ fdIs f o.a 0 = false ∧ fdIs f o.b 0 = false) : fdBeside f o lets zero = if fdIs f o.a lets = true then some (fdCopied f o o.b) else if fdIs f o.b lets = true then some (fdCopied f o o.a) else none := by
  unfold fdBeside
  rw [if_neg]
  rintro ⟨h1, h2⟩
  rcases h with h | ⟨ha, hb⟩
  · rw [h] at h1; cases h1
  · rcases h2 with h2 | h2
    · rw [ha] at h2; cases h2
    · rw [hb] at h2; cases h2
def OptPost (r : Option Opn) (o : Opn) (w : World) (e : Ending) (w' : World) : Prop := e = .returned (.tuple #[opVal (r.getD o), .bool r.isSome]) ∧ Below w.heap.size w w'
set_option maxRecDepth 100000 in
set_option maxHeartbeats 4000000 in
theorem fold_beside (F b n : Nat) (f : Int → Option Int) (o : Opn) (hf : o.fine) (lets : Int) (zero : Bool) (w : World) (h : FoAt w F b n f) :
    Calls Try.prog 75 #[.pointer (some ⟨F, 0, none⟩), opVal o, .int .i64 lets, .bool zero] w (OptPost (fdBeside f o lets zero) o w) := by
  have HWA := Lib.hid (intR_lit hf.2.2.1)
  have HWB := Lib.hid (intR_lit hf.2.2.2.1)
  have HZA := Lib.hid (fun W h => fold_is F b n f o.a 0 HWA.out W h)
  have HZB := Lib.hid (fun W h => fold_is F b n f o.b 0 HWB.out W h)
  have HLA := Lib.hid (fun W h => fold_is F b n f o.a lets HWA.out W h)
  have HLB := Lib.hid (fun W h => fold_is F b n f o.b lets HWB.out W h)
  have HN := Lib.hid (fun m W => fold_number o m W)
  have HCP := Lib.hid (fun t ht W h => fold_copied F b n f o t ht W h)
  unfold CopPost opVal at HN HCP
  generalize hPO : OptPost (fdBeside f o lets zero) o w = PO
  have HPO := Lib.hid hPO
  unfold opVal
  have e1 := alloc_size w (.cells #[.int .i64 o.kind, .int .i64 o.dst, .int .i64 o.a, .int .i64 o.b, .int .i64 o.c, .int .i64 o.imm] 41) rfl
  have hX := alloc_old (alloc_last w _ rfl (.cells #[.int .i64 o.kind, .int .i64 o.dst, .int .i64 o.a, .int .i64 o.b, .int .i64 o.c, .int .i64 o.imm] 41)) (.cells #[.int .i64 0, .int .i64 0, .int .i64 0, .int .i64 0, .int .i64 0, .int .i64 0] 41)
  have hR := alloc_last _ _ e1 (.cells #[.int .i64 0, .int .i64 0, .int .i64 0, .int .i64 0, .int .i64 0, .int .i64 0] 41)
  have hB := bal (bnew w (.cells #[.int .i64 o.kind, .int .i64 o.dst, .int .i64 o.a, .int .i64 o.b, .int .i64 o.c, .int .i64 o.imm] 41)) (.cells #[.int .i64 0, .int .i64 0, .int .i64 0, .int .i64 0, .int .i64 0, .int .i64 0] 41)
  have HF := Lib.hid (h.below hB)
  clear h hf hPO
  cases zero with
  | true =>
    cases hza : fdIs f o.a 0 with
    | true =>
      rw [hza] at HZA
      go_enter Try.func75, Try.ntmps75
      go_upto_region 1 with (fail)
      generalize (w.alloc (.cells #[.int .i64 o.kind, .int .i64 o.dst, .int .i64 o.a, .int .i64 o.b, .int .i64 o.c, .int .i64 o.imm] 41)).alloc (.cells #[.int .i64 0, .int .i64 0, .int .i64 0, .int .i64 0, .int .i64 0, .int .i64 0] 41) = w1 at *
      have HX := Lib.hid hX
      have HR := Lib.hid hR
      have HB := Lib.hid hB
      clear hX hR hB e1
      obtain ⟨c0, c1, c2, c3, c4, c5, _, _, _, _⟩ := op_cells_at HX.out
      go_wp2_with fail
      refine (HZA.out _ HF.out).mono ?_
      rintro e w' ⟨rfl, rfl⟩
      replace HN := Lib.hid (HN.out (0))
      have HPP : Hid (∀ w', Below w.heap.size w w' → PO (.returned (.tuple #[.agg #[.int .i64 (fdNum o 0).kind, .int .i64 (fdNum o 0).dst, .int .i64 (fdNum o 0).a, .int .i64 (fdNum o 0).b, .int .i64 (fdNum o 0).c, .int .i64 (fdNum o 0).imm], .bool true])) w') := Lib.hid (fun w' hb => by rw [← HPO.out, show fdBeside f o lets true = some (fdNum o 0) by unfold fdBeside; rw [if_pos ⟨rfl, Or.inl hza⟩]]; exact ⟨rfl, hb⟩)
      generalize fdNum o (0) = q at *
      go_wp2_with fail
      refine (HN.out _).mono ?_
      rintro e w2 ⟨rfl, hb⟩
      have hX' := (hb.block _ (lt_of_blk HX.out)).trans HX.out
      have hR' := (hb.block _ (lt_of_blk HR.out)).trans HR.out
      have hB' := bch HB.out hb
      have HX := Lib.hid hX'
      have HR := Lib.hid hR'
      have HB := Lib.hid hB'
      clear hX' hR' hB' hb
      clear c0 c1 c2 c3 c4 c5
      obtain ⟨r0, s0⟩ := cell_of_blk HR.out 0
      obtain ⟨r1, s1⟩ := cell_of_blk HR.out 1
      obtain ⟨r2, s2⟩ := cell_of_blk HR.out 2
      obtain ⟨r3, s3⟩ := cell_of_blk HR.out 3
      obtain ⟨r4, s4⟩ := cell_of_blk HR.out 4
      obtain ⟨r5, s5⟩ := cell_of_blk HR.out 5
      go_wp2_with fail
      have hr7 := (blk_set (blk_set (blk_set (blk_set (blk_set (blk_set HR.out 0 (.int .i64 q.kind)) 1 (.int .i64 q.dst)) 2 (.int .i64 q.a)) 3 (.int .i64 q.b)) 4 (.int .i64 q.c)) 5 (.int .i64 q.imm))
      have hB7 := ((((((HB.out.setCell (p := ⟨w.heap.size + 1, 0, none⟩) (by show w.heap.size ≤ w.heap.size + 1; omega) (.int .i64 q.kind)).setCell (p := ⟨w.heap.size + 1, 1, none⟩) (by show w.heap.size ≤ w.heap.size + 1; omega) (.int .i64 q.dst)).setCell (p := ⟨w.heap.size + 1, 2, none⟩) (by show w.heap.size ≤ w.heap.size + 1; omega) (.int .i64 q.a)).setCell (p := ⟨w.heap.size + 1, 3, none⟩) (by show w.heap.size ≤ w.heap.size + 1; omega) (.int .i64 q.b)).setCell (p := ⟨w.heap.size + 1, 4, none⟩) (by show w.heap.size ≤ w.heap.size + 1; omega) (.int .i64 q.c)).setCell (p := ⟨w.heap.size + 1, 5, none⟩) (by show w.heap.size ≤ w.heap.size + 1; omega) (.int .i64 q.imm))
      generalize ((((((w2.setCell ⟨w.heap.size + 1, 0, none⟩ (.int .i64 q.kind)).setCell ⟨w.heap.size + 1, 1, none⟩ (.int .i64 q.dst)).setCell ⟨w.heap.size + 1, 2, none⟩ (.int .i64 q.a)).setCell ⟨w.heap.size + 1, 3, none⟩ (.int .i64 q.b)).setCell ⟨w.heap.size + 1, 4, none⟩ (.int .i64 q.c)).setCell ⟨w.heap.size + 1, 5, none⟩ (.int .i64 q.imm)) = w7 at *
      have k0 : w7.cell? ⟨w.heap.size + 1, 0, none⟩ = some (.int .i64 q.kind) := (cell_of_blk hr7 0).1
      have k1 : w7.cell? ⟨w.heap.size + 1, 1, none⟩ = some (.int .i64 q.dst) := (cell_of_blk hr7 1).1
      have k2 : w7.cell? ⟨w.heap.size + 1, 2, none⟩ = some (.int .i64 q.a) := (cell_of_blk hr7 2).1
      have k3 : w7.cell? ⟨w.heap.size + 1, 3, none⟩ = some (.int .i64 q.b) := (cell_of_blk hr7 3).1
      have k4 : w7.cell? ⟨w.heap.size + 1, 4, none⟩ = some (.int .i64 q.c) := (cell_of_blk hr7 4).1
      have k5 : w7.cell? ⟨w.heap.size + 1, 5, none⟩ = some (.int .i64 q.imm) := (cell_of_blk hr7 5).1
      clear hr7 r0 r1 r2 r3 r4 r5 s0 s1 s2 s3 s4 s5
      refine bodyPost_ret (v := .tuple #[.agg #[.int .i64 q.kind, .int .i64 q.dst, .int .i64 q.a, .int .i64 q.b, .int .i64 q.c, .int .i64 q.imm], .bool true]) (by simp [results, Try.results75, go_sem, k0, k1, k2, k3, k4, k5]; try rfl) rfl ?_
      exact HPP.out _ hB7
    | false =>
      rw [hza] at HZA
      cases hzb : fdIs f o.b 0 with
      | true =>
        rw [hzb] at HZB
        go_enter Try.func75, Try.ntmps75
        go_upto_region 1 with (fail)
        generalize (w.alloc (.cells #[.int .i64 o.kind, .int .i64 o.dst, .int .i64 o.a, .int .i64 o.b, .int .i64 o.c, .int .i64 o.imm] 41)).alloc (.cells #[.int .i64 0, .int .i64 0, .int .i64 0, .int .i64 0, .int .i64 0, .int .i64 0] 41) = w1 at *
        have HX := Lib.hid hX
        have HR := Lib.hid hR
        have HB := Lib.hid hB
        clear hX hR hB e1
        obtain ⟨c0, c1, c2, c3, c4, c5, _, _, _, _⟩ := op_cells_at HX.out
        go_wp2_with fail
        refine (HZA.out _ HF.out).mono ?_
        rintro e w' ⟨rfl, rfl⟩
        go_wp2_with fail
        refine (HZB.out _ HF.out).mono ?_
        rintro e w' ⟨rfl, rfl⟩
        replace HN := Lib.hid (HN.out (0))
        have HPP : Hid (∀ w', Below w.heap.size w w' → PO (.returned (.tuple #[.agg #[.int .i64 (fdNum o 0).kind, .int .i64 (fdNum o 0).dst, .int .i64 (fdNum o 0).a, .int .i64 (fdNum o 0).b, .int .i64 (fdNum o 0).c, .int .i64 (fdNum o 0).imm], .bool true])) w') := Lib.hid (fun w' hb => by rw [← HPO.out, show fdBeside f o lets true = some (fdNum o 0) by unfold fdBeside; rw [if_pos ⟨rfl, Or.inr hzb⟩]]; exact ⟨rfl, hb⟩)
        generalize fdNum o (0) = q at *
        go_wp2_with fail
        refine (HN.out _).mono ?_
        rintro e w2 ⟨rfl, hb⟩
        have hX' := (hb.block _ (lt_of_blk HX.out)).trans HX.out
        have hR' := (hb.block _ (lt_of_blk HR.out)).trans HR.out
        have hB' := bch HB.out hb
        have HX := Lib.hid hX'
        have HR := Lib.hid hR'
        have HB := Lib.hid hB'
        clear hX' hR' hB' hb
        clear c0 c1 c2 c3 c4 c5
        obtain ⟨r0, s0⟩ := cell_of_blk HR.out 0
        obtain ⟨r1, s1⟩ := cell_of_blk HR.out 1
        obtain ⟨r2, s2⟩ := cell_of_blk HR.out 2
        obtain ⟨r3, s3⟩ := cell_of_blk HR.out 3
        obtain ⟨r4, s4⟩ := cell_of_blk HR.out 4
        obtain ⟨r5, s5⟩ := cell_of_blk HR.out 5
        go_wp2_with fail
        have hr7 := (blk_set (blk_set (blk_set (blk_set (blk_set (blk_set HR.out 0 (.int .i64 q.kind)) 1 (.int .i64 q.dst)) 2 (.int .i64 q.a)) 3 (.int .i64 q.b)) 4 (.int .i64 q.c)) 5 (.int .i64 q.imm))
        have hB7 := ((((((HB.out.setCell (p := ⟨w.heap.size + 1, 0, none⟩) (by show w.heap.size ≤ w.heap.size + 1; omega) (.int .i64 q.kind)).setCell (p := ⟨w.heap.size + 1, 1, none⟩) (by show w.heap.size ≤ w.heap.size + 1; omega) (.int .i64 q.dst)).setCell (p := ⟨w.heap.size + 1, 2, none⟩) (by show w.heap.size ≤ w.heap.size + 1; omega) (.int .i64 q.a)).setCell (p := ⟨w.heap.size + 1, 3, none⟩) (by show w.heap.size ≤ w.heap.size + 1; omega) (.int .i64 q.b)).setCell (p := ⟨w.heap.size + 1, 4, none⟩) (by show w.heap.size ≤ w.heap.size + 1; omega) (.int .i64 q.c)).setCell (p := ⟨w.heap.size + 1, 5, none⟩) (by show w.heap.size ≤ w.heap.size + 1; omega) (.int .i64 q.imm))
        generalize ((((((w2.setCell ⟨w.heap.size + 1, 0, none⟩ (.int .i64 q.kind)).setCell ⟨w.heap.size + 1, 1, none⟩ (.int .i64 q.dst)).setCell ⟨w.heap.size + 1, 2, none⟩ (.int .i64 q.a)).setCell ⟨w.heap.size + 1, 3, none⟩ (.int .i64 q.b)).setCell ⟨w.heap.size + 1, 4, none⟩ (.int .i64 q.c)).setCell ⟨w.heap.size + 1, 5, none⟩ (.int .i64 q.imm)) = w7 at *
        have k0 : w7.cell? ⟨w.heap.size + 1, 0, none⟩ = some (.int .i64 q.kind) := (cell_of_blk hr7 0).1
        have k1 : w7.cell? ⟨w.heap.size + 1, 1, none⟩ = some (.int .i64 q.dst) := (cell_of_blk hr7 1).1
        have k2 : w7.cell? ⟨w.heap.size + 1, 2, none⟩ = some (.int .i64 q.a) := (cell_of_blk hr7 2).1
        have k3 : w7.cell? ⟨w.heap.size + 1, 3, none⟩ = some (.int .i64 q.b) := (cell_of_blk hr7 3).1
        have k4 : w7.cell? ⟨w.heap.size + 1, 4, none⟩ = some (.int .i64 q.c) := (cell_of_blk hr7 4).1
        have k5 : w7.cell? ⟨w.heap.size + 1, 5, none⟩ = some (.int .i64 q.imm) := (cell_of_blk hr7 5).1
        clear hr7 r0 r1 r2 r3 r4 r5 s0 s1 s2 s3 s4 s5
        refine bodyPost_ret (v := .tuple #[.agg #[.int .i64 q.kind, .int .i64 q.dst, .int .i64 q.a, .int .i64 q.b, .int .i64 q.c, .int .i64 q.imm], .bool true]) (by simp [results, Try.results75, go_sem, k0, k1, k2, k3, k4, k5]; try rfl) rfl ?_
        exact HPP.out _ hB7
      | false =>
        rw [hzb] at HZB
        have HNO := Lib.hid (beside_rest (f := f) (o := o) (lets := lets) (zero := true) (Or.inr ⟨hza, hzb⟩))
        go_enter Try.func75, Try.ntmps75
        go_upto_region 1 with (fail)
        generalize (w.alloc (.cells #[.int .i64 o.kind, .int .i64 o.dst, .int .i64 o.a, .int .i64 o.b, .int .i64 o.c, .int .i64 o.imm] 41)).alloc (.cells #[.int .i64 0, .int .i64 0, .int .i64 0, .int .i64 0, .int .i64 0, .int .i64 0] 41) = w1 at *
        have HX := Lib.hid hX
        have HR := Lib.hid hR
        have HB := Lib.hid hB
        clear hX hR hB e1
        obtain ⟨c0, c1, c2, c3, c4, c5, _, _, _, _⟩ := op_cells_at HX.out
        go_wp2_with fail
        refine (HZA.out _ HF.out).mono ?_
        rintro e w' ⟨rfl, rfl⟩
        go_wp2_with fail
        refine (HZB.out _ HF.out).mono ?_
        rintro e w' ⟨rfl, rfl⟩
        cases hla : fdIs f o.a lets with
        | true =>
          rw [hla] at HLA
          go_wp2_with fail
          refine (HLA.out _ HF.out).mono ?_
          rintro e w' ⟨rfl, rfl⟩
          replace HCP := Lib.hid (HCP.out o.b HWB.out)
          have HPP : Hid (∀ w', Below w.heap.size w w' → PO (.returned (.tuple #[.agg #[.int .i64 (fdCopied f o o.b).kind, .int .i64 (fdCopied f o o.b).dst, .int .i64 (fdCopied f o o.b).a, .int .i64 (fdCopied f o o.b).b, .int .i64 (fdCopied f o o.b).c, .int .i64 (fdCopied f o o.b).imm], .bool true])) w') := Lib.hid (fun w' hb => by rw [← HPO.out, show fdBeside f o lets true = some (fdCopied f o o.b) by rw [HNO.out, if_pos hla]]; exact ⟨rfl, hb⟩)
          generalize fdCopied f o o.b = q at *
          go_wp2_with fail
          refine (HCP.out _ HF.out).mono ?_
          rintro e w2 ⟨rfl, hb⟩
          have hX' := (hb.block _ (lt_of_blk HX.out)).trans HX.out
          have hR' := (hb.block _ (lt_of_blk HR.out)).trans HR.out
          have hB' := bch HB.out hb
          have HX := Lib.hid hX'
          have HR := Lib.hid hR'
          have HB := Lib.hid hB'
          clear hX' hR' hB' hb
          clear c0 c1 c2 c3 c4 c5
          obtain ⟨r0, s0⟩ := cell_of_blk HR.out 0
          obtain ⟨r1, s1⟩ := cell_of_blk HR.out 1
          obtain ⟨r2, s2⟩ := cell_of_blk HR.out 2
          obtain ⟨r3, s3⟩ := cell_of_blk HR.out 3
          obtain ⟨r4, s4⟩ := cell_of_blk HR.out 4
          obtain ⟨r5, s5⟩ := cell_of_blk HR.out 5
          go_wp2_with fail
          have hr7 := (blk_set (blk_set (blk_set (blk_set (blk_set (blk_set HR.out 0 (.int .i64 q.kind)) 1 (.int .i64 q.dst)) 2 (.int .i64 q.a)) 3 (.int .i64 q.b)) 4 (.int .i64 q.c)) 5 (.int .i64 q.imm))
          have hB7 := ((((((HB.out.setCell (p := ⟨w.heap.size + 1, 0, none⟩) (by show w.heap.size ≤ w.heap.size + 1; omega) (.int .i64 q.kind)).setCell (p := ⟨w.heap.size + 1, 1, none⟩) (by show w.heap.size ≤ w.heap.size + 1; omega) (.int .i64 q.dst)).setCell (p := ⟨w.heap.size + 1, 2, none⟩) (by show w.heap.size ≤ w.heap.size + 1; omega) (.int .i64 q.a)).setCell (p := ⟨w.heap.size + 1, 3, none⟩) (by show w.heap.size ≤ w.heap.size + 1; omega) (.int .i64 q.b)).setCell (p := ⟨w.heap.size + 1, 4, none⟩) (by show w.heap.size ≤ w.heap.size + 1; omega) (.int .i64 q.c)).setCell (p := ⟨w.heap.size + 1, 5, none⟩) (by show w.heap.size ≤ w.heap.size + 1; omega) (.int .i64 q.imm))
          generalize ((((((w2.setCell ⟨w.heap.size + 1, 0, none⟩ (.int .i64 q.kind)).setCell ⟨w.heap.size + 1, 1, none⟩ (.int .i64 q.dst)).setCell ⟨w.heap.size + 1, 2, none⟩ (.int .i64 q.a)).setCell ⟨w.heap.size + 1, 3, none⟩ (.int .i64 q.b)).setCell ⟨w.heap.size + 1, 4, none⟩ (.int .i64 q.c)).setCell ⟨w.heap.size + 1, 5, none⟩ (.int .i64 q.imm)) = w7 at *
          have k0 : w7.cell? ⟨w.heap.size + 1, 0, none⟩ = some (.int .i64 q.kind) := (cell_of_blk hr7 0).1
          have k1 : w7.cell? ⟨w.heap.size + 1, 1, none⟩ = some (.int .i64 q.dst) := (cell_of_blk hr7 1).1
          have k2 : w7.cell? ⟨w.heap.size + 1, 2, none⟩ = some (.int .i64 q.a) := (cell_of_blk hr7 2).1
          have k3 : w7.cell? ⟨w.heap.size + 1, 3, none⟩ = some (.int .i64 q.b) := (cell_of_blk hr7 3).1
          have k4 : w7.cell? ⟨w.heap.size + 1, 4, none⟩ = some (.int .i64 q.c) := (cell_of_blk hr7 4).1
          have k5 : w7.cell? ⟨w.heap.size + 1, 5, none⟩ = some (.int .i64 q.imm) := (cell_of_blk hr7 5).1
          clear hr7 r0 r1 r2 r3 r4 r5 s0 s1 s2 s3 s4 s5
          refine bodyPost_ret (v := .tuple #[.agg #[.int .i64 q.kind, .int .i64 q.dst, .int .i64 q.a, .int .i64 q.b, .int .i64 q.c, .int .i64 q.imm], .bool true]) (by simp [results, Try.results75, go_sem, k0, k1, k2, k3, k4, k5]; try rfl) rfl ?_
          exact HPP.out _ hB7
        | false =>
          rw [hla] at HLA
          cases hlb : fdIs f o.b lets with
          | true =>
            rw [hlb] at HLB
            go_wp2_with fail
            refine (HLA.out _ HF.out).mono ?_
            rintro e w' ⟨rfl, rfl⟩
            go_wp2_with fail
            refine (HLB.out _ HF.out).mono ?_
            rintro e w' ⟨rfl, rfl⟩
            replace HCP := Lib.hid (HCP.out o.a HWA.out)
            have HPP : Hid (∀ w', Below w.heap.size w w' → PO (.returned (.tuple #[.agg #[.int .i64 (fdCopied f o o.a).kind, .int .i64 (fdCopied f o o.a).dst, .int .i64 (fdCopied f o o.a).a, .int .i64 (fdCopied f o o.a).b, .int .i64 (fdCopied f o o.a).c, .int .i64 (fdCopied f o o.a).imm], .bool true])) w') := Lib.hid (fun w' hb => by rw [← HPO.out, show fdBeside f o lets true = some (fdCopied f o o.a) by rw [HNO.out, if_neg (by rw [hla]; decide), if_pos hlb]]; exact ⟨rfl, hb⟩)
            generalize fdCopied f o o.a = q at *
            go_wp2_with fail
            refine (HCP.out _ HF.out).mono ?_
            rintro e w2 ⟨rfl, hb⟩
            have hX' := (hb.block _ (lt_of_blk HX.out)).trans HX.out
            have hR' := (hb.block _ (lt_of_blk HR.out)).trans HR.out
            have hB' := bch HB.out hb
            have HX := Lib.hid hX'
            have HR := Lib.hid hR'
            have HB := Lib.hid hB'
            clear hX' hR' hB' hb
            clear c0 c1 c2 c3 c4 c5
            obtain ⟨r0, s0⟩ := cell_of_blk HR.out 0
            obtain ⟨r1, s1⟩ := cell_of_blk HR.out 1
            obtain ⟨r2, s2⟩ := cell_of_blk HR.out 2
            obtain ⟨r3, s3⟩ := cell_of_blk HR.out 3
            obtain ⟨r4, s4⟩ := cell_of_blk HR.out 4
            obtain ⟨r5, s5⟩ := cell_of_blk HR.out 5
            go_wp2_with fail
            have hr7 := (blk_set (blk_set (blk_set (blk_set (blk_set (blk_set HR.out 0 (.int .i64 q.kind)) 1 (.int .i64 q.dst)) 2 (.int .i64 q.a)) 3 (.int .i64 q.b)) 4 (.int .i64 q.c)) 5 (.int .i64 q.imm))
            have hB7 := ((((((HB.out.setCell (p := ⟨w.heap.size + 1, 0, none⟩) (by show w.heap.size ≤ w.heap.size + 1; omega) (.int .i64 q.kind)).setCell (p := ⟨w.heap.size + 1, 1, none⟩) (by show w.heap.size ≤ w.heap.size + 1; omega) (.int .i64 q.dst)).setCell (p := ⟨w.heap.size + 1, 2, none⟩) (by show w.heap.size ≤ w.heap.size + 1; omega) (.int .i64 q.a)).setCell (p := ⟨w.heap.size + 1, 3, none⟩) (by show w.heap.size ≤ w.heap.size + 1; omega) (.int .i64 q.b)).setCell (p := ⟨w.heap.size + 1, 4, none⟩) (by show w.heap.size ≤ w.heap.size + 1; omega) (.int .i64 q.c)).setCell (p := ⟨w.heap.size + 1, 5, none⟩) (by show w.heap.size ≤ w.heap.size + 1; omega) (.int .i64 q.imm))
            generalize ((((((w2.setCell ⟨w.heap.size + 1, 0, none⟩ (.int .i64 q.kind)).setCell ⟨w.heap.size + 1, 1, none⟩ (.int .i64 q.dst)).setCell ⟨w.heap.size + 1, 2, none⟩ (.int .i64 q.a)).setCell ⟨w.heap.size + 1, 3, none⟩ (.int .i64 q.b)).setCell ⟨w.heap.size + 1, 4, none⟩ (.int .i64 q.c)).setCell ⟨w.heap.size + 1, 5, none⟩ (.int .i64 q.imm)) = w7 at *
            have k0 : w7.cell? ⟨w.heap.size + 1, 0, none⟩ = some (.int .i64 q.kind) := (cell_of_blk hr7 0).1
            have k1 : w7.cell? ⟨w.heap.size + 1, 1, none⟩ = some (.int .i64 q.dst) := (cell_of_blk hr7 1).1
            have k2 : w7.cell? ⟨w.heap.size + 1, 2, none⟩ = some (.int .i64 q.a) := (cell_of_blk hr7 2).1
            have k3 : w7.cell? ⟨w.heap.size + 1, 3, none⟩ = some (.int .i64 q.b) := (cell_of_blk hr7 3).1
            have k4 : w7.cell? ⟨w.heap.size + 1, 4, none⟩ = some (.int .i64 q.c) := (cell_of_blk hr7 4).1
            have k5 : w7.cell? ⟨w.heap.size + 1, 5, none⟩ = some (.int .i64 q.imm) := (cell_of_blk hr7 5).1
            clear hr7 r0 r1 r2 r3 r4 r5 s0 s1 s2 s3 s4 s5
            refine bodyPost_ret (v := .tuple #[.agg #[.int .i64 q.kind, .int .i64 q.dst, .int .i64 q.a, .int .i64 q.b, .int .i64 q.c, .int .i64 q.imm], .bool true]) (by simp [results, Try.results75, go_sem, k0, k1, k2, k3, k4, k5]; try rfl) rfl ?_
            exact HPP.out _ hB7
          | false =>
            rw [hlb] at HLB
            go_wp2_with fail
            refine (HLA.out _ HF.out).mono ?_
            rintro e w' ⟨rfl, rfl⟩
            go_wp2_with fail
            refine (HLB.out _ HF.out).mono ?_
            rintro e w' ⟨rfl, rfl⟩
            have HPP : Hid (∀ w', Below w.heap.size w w' → PO (.returned (.tuple #[.agg #[.int .i64 o.kind, .int .i64 o.dst, .int .i64 o.a, .int .i64 o.b, .int .i64 o.c, .int .i64 o.imm], .bool false])) w') := Lib.hid (fun w' hb => by rw [← HPO.out, show fdBeside f o lets true = none by rw [HNO.out, if_neg (by rw [hla]; decide), if_neg (by rw [hlb]; decide)]]; exact ⟨rfl, hb⟩)
            obtain ⟨r0, s0⟩ := cell_of_blk HR.out 0
            obtain ⟨r1, s1⟩ := cell_of_blk HR.out 1
            obtain ⟨r2, s2⟩ := cell_of_blk HR.out 2
            obtain ⟨r3, s3⟩ := cell_of_blk HR.out 3
            obtain ⟨r4, s4⟩ := cell_of_blk HR.out 4
            obtain ⟨r5, s5⟩ := cell_of_blk HR.out 5
            go_wp2_with fail
            clear c0 c1 c2 c3 c4 c5
            have hr7 := (blk_set (blk_set (blk_set (blk_set (blk_set (blk_set HR.out 0 (.int .i64 o.kind)) 1 (.int .i64 o.dst)) 2 (.int .i64 o.a)) 3 (.int .i64 o.b)) 4 (.int .i64 o.c)) 5 (.int .i64 o.imm))
            have hB7 := ((((((HB.out.setCell (p := ⟨w.heap.size + 1, 0, none⟩) (by show w.heap.size ≤ w.heap.size + 1; omega) (.int .i64 o.kind)).setCell (p := ⟨w.heap.size + 1, 1, none⟩) (by show w.heap.size ≤ w.heap.size + 1; omega) (.int .i64 o.dst)).setCell (p := ⟨w.heap.size + 1, 2, none⟩) (by show w.heap.size ≤ w.heap.size + 1; omega) (.int .i64 o.a)).setCell (p := ⟨w.heap.size + 1, 3, none⟩) (by show w.heap.size ≤ w.heap.size + 1; omega) (.int .i64 o.b)).setCell (p := ⟨w.heap.size + 1, 4, none⟩) (by show w.heap.size ≤ w.heap.size + 1; omega) (.int .i64 o.c)).setCell (p := ⟨w.heap.size + 1, 5, none⟩) (by show w.heap.size ≤ w.heap.size + 1; omega) (.int .i64 o.imm))
            generalize ((((((w1.setCell ⟨w.heap.size + 1, 0, none⟩ (.int .i64 o.kind)).setCell ⟨w.heap.size + 1, 1, none⟩ (.int .i64 o.dst)).setCell ⟨w.heap.size + 1, 2, none⟩ (.int .i64 o.a)).setCell ⟨w.heap.size + 1, 3, none⟩ (.int .i64 o.b)).setCell ⟨w.heap.size + 1, 4, none⟩ (.int .i64 o.c)).setCell ⟨w.heap.size + 1, 5, none⟩ (.int .i64 o.imm)) = w7 at *
            have k0 : w7.cell? ⟨w.heap.size + 1, 0, none⟩ = some (.int .i64 o.kind) := (cell_of_blk hr7 0).1
            have k1 : w7.cell? ⟨w.heap.size + 1, 1, none⟩ = some (.int .i64 o.dst) := (cell_of_blk hr7 1).1
            have k2 : w7.cell? ⟨w.heap.size + 1, 2, none⟩ = some (.int .i64 o.a) := (cell_of_blk hr7 2).1
            have k3 : w7.cell? ⟨w.heap.size + 1, 3, none⟩ = some (.int .i64 o.b) := (cell_of_blk hr7 3).1
            have k4 : w7.cell? ⟨w.heap.size + 1, 4, none⟩ = some (.int .i64 o.c) := (cell_of_blk hr7 4).1
            have k5 : w7.cell? ⟨w.heap.size + 1, 5, none⟩ = some (.int .i64 o.imm) := (cell_of_blk hr7 5).1
            clear hr7 r0 r1 r2 r3 r4 r5 s0 s1 s2 s3 s4 s5
            refine bodyPost_ret (v := .tuple #[.agg #[.int .i64 o.kind, .int .i64 o.dst, .int .i64 o.a, .int .i64 o.b, .int .i64 o.c, .int .i64 o.imm], .bool false]) (by simp [results, Try.results75, go_sem, k0, k1, k2, k3, k4, k5]; try rfl) rfl ?_
            exact HPP.out _ hB7
  | false =>
    have HNO := Lib.hid (beside_rest (f := f) (o := o) (lets := lets) (zero := false) (Or.inl rfl))
    go_enter Try.func75, Try.ntmps75
    go_upto_region 1 with (fail)
    generalize (w.alloc (.cells #[.int .i64 o.kind, .int .i64 o.dst, .int .i64 o.a, .int .i64 o.b, .int .i64 o.c, .int .i64 o.imm] 41)).alloc (.cells #[.int .i64 0, .int .i64 0, .int .i64 0, .int .i64 0, .int .i64 0, .int .i64 0] 41) = w1 at *
    have HX := Lib.hid hX
    have HR := Lib.hid hR
    have HB := Lib.hid hB
    clear hX hR hB e1
    obtain ⟨c0, c1, c2, c3, c4, c5, _, _, _, _⟩ := op_cells_at HX.out
    cases hla : fdIs f o.a lets with
    | true =>
      rw [hla] at HLA
      go_wp2_with fail
      refine (HLA.out _ HF.out).mono ?_
      rintro e w' ⟨rfl, rfl⟩
      replace HCP := Lib.hid (HCP.out o.b HWB.out)
      have HPP : Hid (∀ w', Below w.heap.size w w' → PO (.returned (.tuple #[.agg #[.int .i64 (fdCopied f o o.b).kind, .int .i64 (fdCopied f o o.b).dst, .int .i64 (fdCopied f o o.b).a, .int .i64 (fdCopied f o o.b).b, .int .i64 (fdCopied f o o.b).c, .int .i64 (fdCopied f o o.b).imm], .bool true])) w') := Lib.hid (fun w' hb => by rw [← HPO.out, show fdBeside f o lets false = some (fdCopied f o o.b) by rw [HNO.out, if_pos hla]]; exact ⟨rfl, hb⟩)
      generalize fdCopied f o o.b = q at *
      go_wp2_with fail
      refine (HCP.out _ HF.out).mono ?_
      rintro e w2 ⟨rfl, hb⟩
      have hX' := (hb.block _ (lt_of_blk HX.out)).trans HX.out
      have hR' := (hb.block _ (lt_of_blk HR.out)).trans HR.out
      have hB' := bch HB.out hb
      have HX := Lib.hid hX'
      have HR := Lib.hid hR'
      have HB := Lib.hid hB'
      clear hX' hR' hB' hb
      clear c0 c1 c2 c3 c4 c5
      obtain ⟨r0, s0⟩ := cell_of_blk HR.out 0
      obtain ⟨r1, s1⟩ := cell_of_blk HR.out 1
      obtain ⟨r2, s2⟩ := cell_of_blk HR.out 2
      obtain ⟨r3, s3⟩ := cell_of_blk HR.out 3
      obtain ⟨r4, s4⟩ := cell_of_blk HR.out 4
      obtain ⟨r5, s5⟩ := cell_of_blk HR.out 5
      go_wp2_with fail
      have hr7 := (blk_set (blk_set (blk_set (blk_set (blk_set (blk_set HR.out 0 (.int .i64 q.kind)) 1 (.int .i64 q.dst)) 2 (.int .i64 q.a)) 3 (.int .i64 q.b)) 4 (.int .i64 q.c)) 5 (.int .i64 q.imm))
      have hB7 := ((((((HB.out.setCell (p := ⟨w.heap.size + 1, 0, none⟩) (by show w.heap.size ≤ w.heap.size + 1; omega) (.int .i64 q.kind)).setCell (p := ⟨w.heap.size + 1, 1, none⟩) (by show w.heap.size ≤ w.heap.size + 1; omega) (.int .i64 q.dst)).setCell (p := ⟨w.heap.size + 1, 2, none⟩) (by show w.heap.size ≤ w.heap.size + 1; omega) (.int .i64 q.a)).setCell (p := ⟨w.heap.size + 1, 3, none⟩) (by show w.heap.size ≤ w.heap.size + 1; omega) (.int .i64 q.b)).setCell (p := ⟨w.heap.size + 1, 4, none⟩) (by show w.heap.size ≤ w.heap.size + 1; omega) (.int .i64 q.c)).setCell (p := ⟨w.heap.size + 1, 5, none⟩) (by show w.heap.size ≤ w.heap.size + 1; omega) (.int .i64 q.imm))
      generalize ((((((w2.setCell ⟨w.heap.size + 1, 0, none⟩ (.int .i64 q.kind)).setCell ⟨w.heap.size + 1, 1, none⟩ (.int .i64 q.dst)).setCell ⟨w.heap.size + 1, 2, none⟩ (.int .i64 q.a)).setCell ⟨w.heap.size + 1, 3, none⟩ (.int .i64 q.b)).setCell ⟨w.heap.size + 1, 4, none⟩ (.int .i64 q.c)).setCell ⟨w.heap.size + 1, 5, none⟩ (.int .i64 q.imm)) = w7 at *
      have k0 : w7.cell? ⟨w.heap.size + 1, 0, none⟩ = some (.int .i64 q.kind) := (cell_of_blk hr7 0).1
      have k1 : w7.cell? ⟨w.heap.size + 1, 1, none⟩ = some (.int .i64 q.dst) := (cell_of_blk hr7 1).1
      have k2 : w7.cell? ⟨w.heap.size + 1, 2, none⟩ = some (.int .i64 q.a) := (cell_of_blk hr7 2).1
      have k3 : w7.cell? ⟨w.heap.size + 1, 3, none⟩ = some (.int .i64 q.b) := (cell_of_blk hr7 3).1
      have k4 : w7.cell? ⟨w.heap.size + 1, 4, none⟩ = some (.int .i64 q.c) := (cell_of_blk hr7 4).1
      have k5 : w7.cell? ⟨w.heap.size + 1, 5, none⟩ = some (.int .i64 q.imm) := (cell_of_blk hr7 5).1
      clear hr7 r0 r1 r2 r3 r4 r5 s0 s1 s2 s3 s4 s5
      refine bodyPost_ret (v := .tuple #[.agg #[.int .i64 q.kind, .int .i64 q.dst, .int .i64 q.a, .int .i64 q.b, .int .i64 q.c, .int .i64 q.imm], .bool true]) (by simp [results, Try.results75, go_sem, k0, k1, k2, k3, k4, k5]; try rfl) rfl ?_
      exact HPP.out _ hB7
    | false =>
      rw [hla] at HLA
      cases hlb : fdIs f o.b lets with
      | true =>
        rw [hlb] at HLB
        go_wp2_with fail
        refine (HLA.out _ HF.out).mono ?_
        rintro e w' ⟨rfl, rfl⟩
        go_wp2_with fail
        refine (HLB.out _ HF.out).mono ?_
        rintro e w' ⟨rfl, rfl⟩
        replace HCP := Lib.hid (HCP.out o.a HWA.out)
        have HPP : Hid (∀ w', Below w.heap.size w w' → PO (.returned (.tuple #[.agg #[.int .i64 (fdCopied f o o.a).kind, .int .i64 (fdCopied f o o.a).dst, .int .i64 (fdCopied f o o.a).a, .int .i64 (fdCopied f o o.a).b, .int .i64 (fdCopied f o o.a).c, .int .i64 (fdCopied f o o.a).imm], .bool true])) w') := Lib.hid (fun w' hb => by rw [← HPO.out, show fdBeside f o lets false = some (fdCopied f o o.a) by rw [HNO.out, if_neg (by rw [hla]; decide), if_pos hlb]]; exact ⟨rfl, hb⟩)
        generalize fdCopied f o o.a = q at *
        go_wp2_with fail
        refine (HCP.out _ HF.out).mono ?_
        rintro e w2 ⟨rfl, hb⟩
        have hX' := (hb.block _ (lt_of_blk HX.out)).trans HX.out
        have hR' := (hb.block _ (lt_of_blk HR.out)).trans HR.out
        have hB' := bch HB.out hb
        have HX := Lib.hid hX'
        have HR := Lib.hid hR'
        have HB := Lib.hid hB'
        clear hX' hR' hB' hb
        clear c0 c1 c2 c3 c4 c5
        obtain ⟨r0, s0⟩ := cell_of_blk HR.out 0
        obtain ⟨r1, s1⟩ := cell_of_blk HR.out 1
        obtain ⟨r2, s2⟩ := cell_of_blk HR.out 2
        obtain ⟨r3, s3⟩ := cell_of_blk HR.out 3
        obtain ⟨r4, s4⟩ := cell_of_blk HR.out 4
        obtain ⟨r5, s5⟩ := cell_of_blk HR.out 5
        go_wp2_with fail
        have hr7 := (blk_set (blk_set (blk_set (blk_set (blk_set (blk_set HR.out 0 (.int .i64 q.kind)) 1 (.int .i64 q.dst)) 2 (.int .i64 q.a)) 3 (.int .i64 q.b)) 4 (.int .i64 q.c)) 5 (.int .i64 q.imm))
        have hB7 := ((((((HB.out.setCell (p := ⟨w.heap.size + 1, 0, none⟩) (by show w.heap.size ≤ w.heap.size + 1; omega) (.int .i64 q.kind)).setCell (p := ⟨w.heap.size + 1, 1, none⟩) (by show w.heap.size ≤ w.heap.size + 1; omega) (.int .i64 q.dst)).setCell (p := ⟨w.heap.size + 1, 2, none⟩) (by show w.heap.size ≤ w.heap.size + 1; omega) (.int .i64 q.a)).setCell (p := ⟨w.heap.size + 1, 3, none⟩) (by show w.heap.size ≤ w.heap.size + 1; omega) (.int .i64 q.b)).setCell (p := ⟨w.heap.size + 1, 4, none⟩) (by show w.heap.size ≤ w.heap.size + 1; omega) (.int .i64 q.c)).setCell (p := ⟨w.heap.size + 1, 5, none⟩) (by show w.heap.size ≤ w.heap.size + 1; omega) (.int .i64 q.imm))
        generalize ((((((w2.setCell ⟨w.heap.size + 1, 0, none⟩ (.int .i64 q.kind)).setCell ⟨w.heap.size + 1, 1, none⟩ (.int .i64 q.dst)).setCell ⟨w.heap.size + 1, 2, none⟩ (.int .i64 q.a)).setCell ⟨w.heap.size + 1, 3, none⟩ (.int .i64 q.b)).setCell ⟨w.heap.size + 1, 4, none⟩ (.int .i64 q.c)).setCell ⟨w.heap.size + 1, 5, none⟩ (.int .i64 q.imm)) = w7 at *
        have k0 : w7.cell? ⟨w.heap.size + 1, 0, none⟩ = some (.int .i64 q.kind) := (cell_of_blk hr7 0).1
        have k1 : w7.cell? ⟨w.heap.size + 1, 1, none⟩ = some (.int .i64 q.dst) := (cell_of_blk hr7 1).1
        have k2 : w7.cell? ⟨w.heap.size + 1, 2, none⟩ = some (.int .i64 q.a) := (cell_of_blk hr7 2).1
        have k3 : w7.cell? ⟨w.heap.size + 1, 3, none⟩ = some (.int .i64 q.b) := (cell_of_blk hr7 3).1
        have k4 : w7.cell? ⟨w.heap.size + 1, 4, none⟩ = some (.int .i64 q.c) := (cell_of_blk hr7 4).1
        have k5 : w7.cell? ⟨w.heap.size + 1, 5, none⟩ = some (.int .i64 q.imm) := (cell_of_blk hr7 5).1
        clear hr7 r0 r1 r2 r3 r4 r5 s0 s1 s2 s3 s4 s5
        refine bodyPost_ret (v := .tuple #[.agg #[.int .i64 q.kind, .int .i64 q.dst, .int .i64 q.a, .int .i64 q.b, .int .i64 q.c, .int .i64 q.imm], .bool true]) (by simp [results, Try.results75, go_sem, k0, k1, k2, k3, k4, k5]; try rfl) rfl ?_
        exact HPP.out _ hB7
      | false =>
        rw [hlb] at HLB
        go_wp2_with fail
        refine (HLA.out _ HF.out).mono ?_
        rintro e w' ⟨rfl, rfl⟩
        go_wp2_with fail
        refine (HLB.out _ HF.out).mono ?_
        rintro e w' ⟨rfl, rfl⟩
        have HPP : Hid (∀ w', Below w.heap.size w w' → PO (.returned (.tuple #[.agg #[.int .i64 o.kind, .int .i64 o.dst, .int .i64 o.a, .int .i64 o.b, .int .i64 o.c, .int .i64 o.imm], .bool false])) w') := Lib.hid (fun w' hb => by rw [← HPO.out, show fdBeside f o lets false = none by rw [HNO.out, if_neg (by rw [hla]; decide), if_neg (by rw [hlb]; decide)]]; exact ⟨rfl, hb⟩)
        obtain ⟨r0, s0⟩ := cell_of_blk HR.out 0
        obtain ⟨r1, s1⟩ := cell_of_blk HR.out 1
        obtain ⟨r2, s2⟩ := cell_of_blk HR.out 2
        obtain ⟨r3, s3⟩ := cell_of_blk HR.out 3
        obtain ⟨r4, s4⟩ := cell_of_blk HR.out 4
        obtain ⟨r5, s5⟩ := cell_of_blk HR.out 5
        go_wp2_with fail
        clear c0 c1 c2 c3 c4 c5
        have hr7 := (blk_set (blk_set (blk_set (blk_set (blk_set (blk_set HR.out 0 (.int .i64 o.kind)) 1 (.int .i64 o.dst)) 2 (.int .i64 o.a)) 3 (.int .i64 o.b)) 4 (.int .i64 o.c)) 5 (.int .i64 o.imm))
        have hB7 := ((((((HB.out.setCell (p := ⟨w.heap.size + 1, 0, none⟩) (by show w.heap.size ≤ w.heap.size + 1; omega) (.int .i64 o.kind)).setCell (p := ⟨w.heap.size + 1, 1, none⟩) (by show w.heap.size ≤ w.heap.size + 1; omega) (.int .i64 o.dst)).setCell (p := ⟨w.heap.size + 1, 2, none⟩) (by show w.heap.size ≤ w.heap.size + 1; omega) (.int .i64 o.a)).setCell (p := ⟨w.heap.size + 1, 3, none⟩) (by show w.heap.size ≤ w.heap.size + 1; omega) (.int .i64 o.b)).setCell (p := ⟨w.heap.size + 1, 4, none⟩) (by show w.heap.size ≤ w.heap.size + 1; omega) (.int .i64 o.c)).setCell (p := ⟨w.heap.size + 1, 5, none⟩) (by show w.heap.size ≤ w.heap.size + 1; omega) (.int .i64 o.imm))
        generalize ((((((w1.setCell ⟨w.heap.size + 1, 0, none⟩ (.int .i64 o.kind)).setCell ⟨w.heap.size + 1, 1, none⟩ (.int .i64 o.dst)).setCell ⟨w.heap.size + 1, 2, none⟩ (.int .i64 o.a)).setCell ⟨w.heap.size + 1, 3, none⟩ (.int .i64 o.b)).setCell ⟨w.heap.size + 1, 4, none⟩ (.int .i64 o.c)).setCell ⟨w.heap.size + 1, 5, none⟩ (.int .i64 o.imm)) = w7 at *
        have k0 : w7.cell? ⟨w.heap.size + 1, 0, none⟩ = some (.int .i64 o.kind) := (cell_of_blk hr7 0).1
        have k1 : w7.cell? ⟨w.heap.size + 1, 1, none⟩ = some (.int .i64 o.dst) := (cell_of_blk hr7 1).1
        have k2 : w7.cell? ⟨w.heap.size + 1, 2, none⟩ = some (.int .i64 o.a) := (cell_of_blk hr7 2).1
        have k3 : w7.cell? ⟨w.heap.size + 1, 3, none⟩ = some (.int .i64 o.b) := (cell_of_blk hr7 3).1
        have k4 : w7.cell? ⟨w.heap.size + 1, 4, none⟩ = some (.int .i64 o.c) := (cell_of_blk hr7 4).1
        have k5 : w7.cell? ⟨w.heap.size + 1, 5, none⟩ = some (.int .i64 o.imm) := (cell_of_blk hr7 5).1
        clear hr7 r0 r1 r2 r3 r4 r5 s0 s1 s2 s3 s4 s5
        refine bodyPost_ret (v := .tuple #[.agg #[.int .i64 o.kind, .int .i64 o.dst, .int .i64 o.a, .int .i64 o.b, .int .i64 o.c, .int .i64 o.imm], .bool false]) (by simp [results, Try.results75, go_sem, k0, k1, k2, k3, k4, k5]; try rfl) rfl ?_
        exact HPP.out _ hB7
end Go.Proofs.Ytfadeipdepamlaa
namespace Go.Proofs.Ytfadeipdepamlaa
open Go.RowKit Go.Maps
set_option linter.unusedVariables false
set_option maxRecDepth 100000 in
set_option maxHeartbeats 4000000 in
theorem fold_same (F b n : Nat) (f : Int → Option Int) (o : Opn) (hf : o.fine) (w : World) (h : FoAt w F b n f) :
    Calls Try.prog 57 #[.pointer (some ⟨F, 0, none⟩), opVal o] w (CopPost (fdSame f o) w) := by
  have HWA := Lib.hid (intR_lit hf.2.2.1)
  have HN := Lib.hid (fun m W => fold_number o m W)
  have HCP := Lib.hid (fun t ht W h => fold_copied F b n f o t ht W h)
  unfold CopPost opVal at HCP HN
  generalize hPO : CopPost (fdSame f o) w = PO
  have HPO := Lib.hid hPO
  unfold opVal
  have e1 := alloc_size w (.cells #[.int .i64 o.kind, .int .i64 o.dst, .int .i64 o.a, .int .i64 o.b, .int .i64 o.c, .int .i64 o.imm] 41) rfl
  have hX := alloc_old (alloc_last w _ rfl (.cells #[.int .i64 o.kind, .int .i64 o.dst, .int .i64 o.a, .int .i64 o.b, .int .i64 o.c, .int .i64 o.imm] 41)) (.cells #[.int .i64 0, .int .i64 0, .int .i64 0, .int .i64 0, .int .i64 0, .int .i64 0] 41)
  have hR := alloc_last _ _ e1 (.cells #[.int .i64 0, .int .i64 0, .int .i64 0, .int .i64 0, .int .i64 0, .int .i64 0] 41)
  have hB := bal (bnew w (.cells #[.int .i64 o.kind, .int .i64 o.dst, .int .i64 o.a, .int .i64 o.b, .int .i64 o.c, .int .i64 o.imm] 41)) (.cells #[.int .i64 0, .int .i64 0, .int .i64 0, .int .i64 0, .int .i64 0, .int .i64 0] 41)
  have HF := Lib.hid (h.below hB)
  clear h hf hPO
  by_cases hab : o.a = o.b
  · have qab : (o.a != o.b) = false := by rw [bne_eq_false_iff_eq]; exact hab
    have hna : ¬ (o.a ≠ o.b) := fun h => h hab
    by_cases hk : o.kind = 4
    · skip
      have q4 : (o.kind == 4) = true := by rw [beq_iff_eq]; exact hk
      have hoe : fdSame f o = fdNum o 0 := by unfold fdSame; rw [if_neg hna, if_pos (by omega)]
      clear hk hab hna
      go_enter Try.func57, Try.ntmps57
      go_upto_region 1 with (fail)
      generalize (w.alloc (.cells #[.int .i64 o.kind, .int .i64 o.dst, .int .i64 o.a, .int .i64 o.b, .int .i64 o.c, .int .i64 o.imm] 41)).alloc (.cells #[.int .i64 0, .int .i64 0, .int .i64 0, .int .i64 0, .int .i64 0, .int .i64 0] 41) = w1 at *
      have HX := Lib.hid hX
      have HR := Lib.hid hR
      have HB := Lib.hid hB
      clear hX hR hB e1
      obtain ⟨c0, c1, c2, c3, c4, c5, _, _, _, _⟩ := op_cells_at HX.out
      replace HN := Lib.hid (HN.out (0))
      have HPP : Hid (∀ w', Below w.heap.size w w' → PO (.returned (.agg #[.int .i64 (fdNum o 0).kind, .int .i64 (fdNum o 0).dst, .int .i64 (fdNum o 0).a, .int .i64 (fdNum o 0).b, .int .i64 (fdNum o 0).c, .int .i64 (fdNum o 0).imm])) w') := Lib.hid (fun w' hb => by rw [← HPO.out, hoe]; exact ⟨rfl, hb⟩)
      clear hoe
      generalize fdNum o (0) = q at *
      go_wp2_with fail
      refine (HN.out _).mono ?_
      rintro e w2 ⟨rfl, hb⟩
      have hX' := (hb.block _ (lt_of_blk HX.out)).trans HX.out
      have hR' := (hb.block _ (lt_of_blk HR.out)).trans HR.out
      have hB' := bch HB.out hb
      have HX := Lib.hid hX'
      have HR := Lib.hid hR'
      have HB := Lib.hid hB'
      clear hX' hR' hB' hb
      clear c0 c1 c2 c3 c4 c5
      obtain ⟨r0, s0⟩ := cell_of_blk HR.out 0
      obtain ⟨r1, s1⟩ := cell_of_blk HR.out 1
      obtain ⟨r2, s2⟩ := cell_of_blk HR.out 2
      obtain ⟨r3, s3⟩ := cell_of_blk HR.out 3
      obtain ⟨r4, s4⟩ := cell_of_blk HR.out 4
      obtain ⟨r5, s5⟩ := cell_of_blk HR.out 5
      go_wp2_with fail
      have hr7 := (blk_set (blk_set (blk_set (blk_set (blk_set (blk_set HR.out 0 (.int .i64 q.kind)) 1 (.int .i64 q.dst)) 2 (.int .i64 q.a)) 3 (.int .i64 q.b)) 4 (.int .i64 q.c)) 5 (.int .i64 q.imm))
      have hB7 := ((((((HB.out.setCell (p := ⟨w.heap.size + 1, 0, none⟩) (by show w.heap.size ≤ w.heap.size + 1; omega) (.int .i64 q.kind)).setCell (p := ⟨w.heap.size + 1, 1, none⟩) (by show w.heap.size ≤ w.heap.size + 1; omega) (.int .i64 q.dst)).setCell (p := ⟨w.heap.size + 1, 2, none⟩) (by show w.heap.size ≤ w.heap.size + 1; omega) (.int .i64 q.a)).setCell (p := ⟨w.heap.size + 1, 3, none⟩) (by show w.heap.size ≤ w.heap.size + 1; omega) (.int .i64 q.b)).setCell (p := ⟨w.heap.size + 1, 4, none⟩) (by show w.heap.size ≤ w.heap.size + 1; omega) (.int .i64 q.c)).setCell (p := ⟨w.heap.size + 1, 5, none⟩) (by show w.heap.size ≤ w.heap.size + 1; omega) (.int .i64 q.imm))
      generalize ((((((w2.setCell ⟨w.heap.size + 1, 0, none⟩ (.int .i64 q.kind)).setCell ⟨w.heap.size + 1, 1, none⟩ (.int .i64 q.dst)).setCell ⟨w.heap.size + 1, 2, none⟩ (.int .i64 q.a)).setCell ⟨w.heap.size + 1, 3, none⟩ (.int .i64 q.b)).setCell ⟨w.heap.size + 1, 4, none⟩ (.int .i64 q.c)).setCell ⟨w.heap.size + 1, 5, none⟩ (.int .i64 q.imm)) = w7 at *
      have k0 : w7.cell? ⟨w.heap.size + 1, 0, none⟩ = some (.int .i64 q.kind) := (cell_of_blk hr7 0).1
      have k1 : w7.cell? ⟨w.heap.size + 1, 1, none⟩ = some (.int .i64 q.dst) := (cell_of_blk hr7 1).1
      have k2 : w7.cell? ⟨w.heap.size + 1, 2, none⟩ = some (.int .i64 q.a) := (cell_of_blk hr7 2).1
      have k3 : w7.cell? ⟨w.heap.size + 1, 3, none⟩ = some (.int .i64 q.b) := (cell_of_blk hr7 3).1
      have k4 : w7.cell? ⟨w.heap.size + 1, 4, none⟩ = some (.int .i64 q.c) := (cell_of_blk hr7 4).1
      have k5 : w7.cell? ⟨w.heap.size + 1, 5, none⟩ = some (.int .i64 q.imm) := (cell_of_blk hr7 5).1
      clear hr7 r0 r1 r2 r3 r4 r5 s0 s1 s2 s3 s4 s5
      refine bodyPost_ret (v := .agg #[.int .i64 q.kind, .int .i64 q.dst, .int .i64 q.a, .int .i64 q.b, .int .i64 q.c, .int .i64 q.imm]) (by simp [results, Try.results57, go_sem, k0, k1, k2, k3, k4, k5]; try rfl) rfl ?_
      exact HPP.out _ hB7
    have hn4 := hk
    clear hk
    by_cases hk : o.kind = 9
    · skip
      have q4 : (o.kind == 4) = false := by rw [beq_eq_false_iff_ne]; omega
      have q9 : (o.kind == 9) = true := by rw [beq_iff_eq]; exact hk
      have hoe : fdSame f o = fdNum o 0 := by unfold fdSame; rw [if_neg hna, if_pos (by omega)]
      clear hk hab hna
      go_enter Try.func57, Try.ntmps57
      go_upto_region 1 with (fail)
      generalize (w.alloc (.cells #[.int .i64 o.kind, .int .i64 o.dst, .int .i64 o.a, .int .i64 o.b, .int .i64 o.c, .int .i64 o.imm] 41)).alloc (.cells #[.int .i64 0, .int .i64 0, .int .i64 0, .int .i64 0, .int .i64 0, .int .i64 0] 41) = w1 at *
      have HX := Lib.hid hX
      have HR := Lib.hid hR
      have HB := Lib.hid hB
      clear hX hR hB e1
      obtain ⟨c0, c1, c2, c3, c4, c5, _, _, _, _⟩ := op_cells_at HX.out
      replace HN := Lib.hid (HN.out (0))
      have HPP : Hid (∀ w', Below w.heap.size w w' → PO (.returned (.agg #[.int .i64 (fdNum o 0).kind, .int .i64 (fdNum o 0).dst, .int .i64 (fdNum o 0).a, .int .i64 (fdNum o 0).b, .int .i64 (fdNum o 0).c, .int .i64 (fdNum o 0).imm])) w') := Lib.hid (fun w' hb => by rw [← HPO.out, hoe]; exact ⟨rfl, hb⟩)
      clear hoe
      generalize fdNum o (0) = q at *
      go_wp2_with fail
      refine (HN.out _).mono ?_
      rintro e w2 ⟨rfl, hb⟩
      have hX' := (hb.block _ (lt_of_blk HX.out)).trans HX.out
      have hR' := (hb.block _ (lt_of_blk HR.out)).trans HR.out
      have hB' := bch HB.out hb
      have HX := Lib.hid hX'
      have HR := Lib.hid hR'
      have HB := Lib.hid hB'
      clear hX' hR' hB' hb
      clear c0 c1 c2 c3 c4 c5
      obtain ⟨r0, s0⟩ := cell_of_blk HR.out 0
      obtain ⟨r1, s1⟩ := cell_of_blk HR.out 1
      obtain ⟨r2, s2⟩ := cell_of_blk HR.out 2
      obtain ⟨r3, s3⟩ := cell_of_blk HR.out 3
      obtain ⟨r4, s4⟩ := cell_of_blk HR.out 4
      obtain ⟨r5, s5⟩ := cell_of_blk HR.out 5
      go_wp2_with fail
      have hr7 := (blk_set (blk_set (blk_set (blk_set (blk_set (blk_set HR.out 0 (.int .i64 q.kind)) 1 (.int .i64 q.dst)) 2 (.int .i64 q.a)) 3 (.int .i64 q.b)) 4 (.int .i64 q.c)) 5 (.int .i64 q.imm))
      have hB7 := ((((((HB.out.setCell (p := ⟨w.heap.size + 1, 0, none⟩) (by show w.heap.size ≤ w.heap.size + 1; omega) (.int .i64 q.kind)).setCell (p := ⟨w.heap.size + 1, 1, none⟩) (by show w.heap.size ≤ w.heap.size + 1; omega) (.int .i64 q.dst)).setCell (p := ⟨w.heap.size + 1, 2, none⟩) (by show w.heap.size ≤ w.heap.size + 1; omega) (.int .i64 q.a)).setCell (p := ⟨w.heap.size + 1, 3, none⟩) (by show w.heap.size ≤ w.heap.size + 1; omega) (.int .i64 q.b)).setCell (p := ⟨w.heap.size + 1, 4, none⟩) (by show w.heap.size ≤ w.heap.size + 1; omega) (.int .i64 q.c)).setCell (p := ⟨w.heap.size + 1, 5, none⟩) (by show w.heap.size ≤ w.heap.size + 1; omega) (.int .i64 q.imm))
      generalize ((((((w2.setCell ⟨w.heap.size + 1, 0, none⟩ (.int .i64 q.kind)).setCell ⟨w.heap.size + 1, 1, none⟩ (.int .i64 q.dst)).setCell ⟨w.heap.size + 1, 2, none⟩ (.int .i64 q.a)).setCell ⟨w.heap.size + 1, 3, none⟩ (.int .i64 q.b)).setCell ⟨w.heap.size + 1, 4, none⟩ (.int .i64 q.c)).setCell ⟨w.heap.size + 1, 5, none⟩ (.int .i64 q.imm)) = w7 at *
      have k0 : w7.cell? ⟨w.heap.size + 1, 0, none⟩ = some (.int .i64 q.kind) := (cell_of_blk hr7 0).1
      have k1 : w7.cell? ⟨w.heap.size + 1, 1, none⟩ = some (.int .i64 q.dst) := (cell_of_blk hr7 1).1
      have k2 : w7.cell? ⟨w.heap.size + 1, 2, none⟩ = some (.int .i64 q.a) := (cell_of_blk hr7 2).1
      have k3 : w7.cell? ⟨w.heap.size + 1, 3, none⟩ = some (.int .i64 q.b) := (cell_of_blk hr7 3).1
      have k4 : w7.cell? ⟨w.heap.size + 1, 4, none⟩ = some (.int .i64 q.c) := (cell_of_blk hr7 4).1
      have k5 : w7.cell? ⟨w.heap.size + 1, 5, none⟩ = some (.int .i64 q.imm) := (cell_of_blk hr7 5).1
      clear hr7 r0 r1 r2 r3 r4 r5 s0 s1 s2 s3 s4 s5
      refine bodyPost_ret (v := .agg #[.int .i64 q.kind, .int .i64 q.dst, .int .i64 q.a, .int .i64 q.b, .int .i64 q.c, .int .i64 q.imm]) (by simp [results, Try.results57, go_sem, k0, k1, k2, k3, k4, k5]; try rfl) rfl ?_
      exact HPP.out _ hB7
    have hn9 := hk
    clear hk
    by_cases hk : o.kind = 14
    · skip
      have q4 : (o.kind == 4) = false := by rw [beq_eq_false_iff_ne]; omega
      have q9 : (o.kind == 9) = false := by rw [beq_eq_false_iff_ne]; omega
      have q14 : (o.kind == 14) = true := by rw [beq_iff_eq]; exact hk
      have hoe : fdSame f o = fdNum o 0 := by unfold fdSame; rw [if_neg hna, if_pos (by omega)]
      clear hk hab hna
      go_enter Try.func57, Try.ntmps57
      go_upto_region 1 with (fail)
      generalize (w.alloc (.cells #[.int .i64 o.kind, .int .i64 o.dst, .int .i64 o.a, .int .i64 o.b, .int .i64 o.c, .int .i64 o.imm] 41)).alloc (.cells #[.int .i64 0, .int .i64 0, .int .i64 0, .int .i64 0, .int .i64 0, .int .i64 0] 41) = w1 at *
      have HX := Lib.hid hX
      have HR := Lib.hid hR
      have HB := Lib.hid hB
      clear hX hR hB e1
      obtain ⟨c0, c1, c2, c3, c4, c5, _, _, _, _⟩ := op_cells_at HX.out
      replace HN := Lib.hid (HN.out (0))
      have HPP : Hid (∀ w', Below w.heap.size w w' → PO (.returned (.agg #[.int .i64 (fdNum o 0).kind, .int .i64 (fdNum o 0).dst, .int .i64 (fdNum o 0).a, .int .i64 (fdNum o 0).b, .int .i64 (fdNum o 0).c, .int .i64 (fdNum o 0).imm])) w') := Lib.hid (fun w' hb => by rw [← HPO.out, hoe]; exact ⟨rfl, hb⟩)
      clear hoe
      generalize fdNum o (0) = q at *
      go_wp2_with fail
      refine (HN.out _).mono ?_
      rintro e w2 ⟨rfl, hb⟩
      have hX' := (hb.block _ (lt_of_blk HX.out)).trans HX.out
      have hR' := (hb.block _ (lt_of_blk HR.out)).trans HR.out
      have hB' := bch HB.out hb
      have HX := Lib.hid hX'
      have HR := Lib.hid hR'
      have HB := Lib.hid hB'
      clear hX' hR' hB' hb
      clear c0 c1 c2 c3 c4 c5
      obtain ⟨r0, s0⟩ := cell_of_blk HR.out 0
      obtain ⟨r1, s1⟩ := cell_of_blk HR.out 1
      obtain ⟨r2, s2⟩ := cell_of_blk HR.out 2
      obtain ⟨r3, s3⟩ := cell_of_blk HR.out 3
      obtain ⟨r4, s4⟩ := cell_of_blk HR.out 4
      obtain ⟨r5, s5⟩ := cell_of_blk HR.out 5
      go_wp2_with fail
      have hr7 := (blk_set (blk_set (blk_set (blk_set (blk_set (blk_set HR.out 0 (.int .i64 q.kind)) 1 (.int .i64 q.dst)) 2 (.int .i64 q.a)) 3 (.int .i64 q.b)) 4 (.int .i64 q.c)) 5 (.int .i64 q.imm))
      have hB7 := ((((((HB.out.setCell (p := ⟨w.heap.size + 1, 0, none⟩) (by show w.heap.size ≤ w.heap.size + 1; omega) (.int .i64 q.kind)).setCell (p := ⟨w.heap.size + 1, 1, none⟩) (by show w.heap.size ≤ w.heap.size + 1; omega) (.int .i64 q.dst)).setCell (p := ⟨w.heap.size + 1, 2, none⟩) (by show w.heap.size ≤ w.heap.size + 1; omega) (.int .i64 q.a)).setCell (p := ⟨w.heap.size + 1, 3, none⟩) (by show w.heap.size ≤ w.heap.size + 1; omega) (.int .i64 q.b)).setCell (p := ⟨w.heap.size + 1, 4, none⟩) (by show w.heap.size ≤ w.heap.size + 1; omega) (.int .i64 q.c)).setCell (p := ⟨w.heap.size + 1, 5, none⟩) (by show w.heap.size ≤ w.heap.size + 1; omega) (.int .i64 q.imm))
      generalize ((((((w2.setCell ⟨w.heap.size + 1, 0, none⟩ (.int .i64 q.kind)).setCell ⟨w.heap.size + 1, 1, none⟩ (.int .i64 q.dst)).setCell ⟨w.heap.size + 1, 2, none⟩ (.int .i64 q.a)).setCell ⟨w.heap.size + 1, 3, none⟩ (.int .i64 q.b)).setCell ⟨w.heap.size + 1, 4, none⟩ (.int .i64 q.c)).setCell ⟨w.heap.size + 1, 5, none⟩ (.int .i64 q.imm)) = w7 at *
      have k0 : w7.cell? ⟨w.heap.size + 1, 0, none⟩ = some (.int .i64 q.kind) := (cell_of_blk hr7 0).1
      have k1 : w7.cell? ⟨w.heap.size + 1, 1, none⟩ = some (.int .i64 q.dst) := (cell_of_blk hr7 1).1
      have k2 : w7.cell? ⟨w.heap.size + 1, 2, none⟩ = some (.int .i64 q.a) := (cell_of_blk hr7 2).1
      have k3 : w7.cell? ⟨w.heap.size + 1, 3, none⟩ = some (.int .i64 q.b) := (cell_of_blk hr7 3).1
      have k4 : w7.cell? ⟨w.heap.size + 1, 4, none⟩ = some (.int .i64 q.c) := (cell_of_blk hr7 4).1
      have k5 : w7.cell? ⟨w.heap.size + 1, 5, none⟩ = some (.int .i64 q.imm) := (cell_of_blk hr7 5).1
      clear hr7 r0 r1 r2 r3 r4 r5 s0 s1 s2 s3 s4 s5
      refine bodyPost_ret (v := .agg #[.int .i64 q.kind, .int .i64 q.dst, .int .i64 q.a, .int .i64 q.b, .int .i64 q.c, .int .i64 q.imm]) (by simp [results, Try.results57, go_sem, k0, k1, k2, k3, k4, k5]; try rfl) rfl ?_
      exact HPP.out _ hB7
    have hn14 := hk
    clear hk
    by_cases hk : o.kind = 15
    · skip
      have q4 : (o.kind == 4) = false := by rw [beq_eq_false_iff_ne]; omega
      have q9 : (o.kind == 9) = false := by rw [beq_eq_false_iff_ne]; omega
      have q14 : (o.kind == 14) = false := by rw [beq_eq_false_iff_ne]; omega
      have q15 : (o.kind == 15) = true := by rw [beq_iff_eq]; exact hk
      have hoe : fdSame f o = fdNum o 4294967295 := by unfold fdSame; rw [if_neg hna, if_neg (by omega), if_pos (by omega)]
      clear hk hab hna
      go_enter Try.func57, Try.ntmps57
      go_upto_region 1 with (fail)
      generalize (w.alloc (.cells #[.int .i64 o.kind, .int .i64 o.dst, .int .i64 o.a, .int .i64 o.b, .int .i64 o.c, .int .i64 o.imm] 41)).alloc (.cells #[.int .i64 0, .int .i64 0, .int .i64 0, .int .i64 0, .int .i64 0, .int .i64 0] 41) = w1 at *
      have HX := Lib.hid hX
      have HR := Lib.hid hR
      have HB := Lib.hid hB
      clear hX hR hB e1
      obtain ⟨c0, c1, c2, c3, c4, c5, _, _, _, _⟩ := op_cells_at HX.out
      replace HN := Lib.hid (HN.out (4294967295))
      have HPP : Hid (∀ w', Below w.heap.size w w' → PO (.returned (.agg #[.int .i64 (fdNum o 4294967295).kind, .int .i64 (fdNum o 4294967295).dst, .int .i64 (fdNum o 4294967295).a, .int .i64 (fdNum o 4294967295).b, .int .i64 (fdNum o 4294967295).c, .int .i64 (fdNum o 4294967295).imm])) w') := Lib.hid (fun w' hb => by rw [← HPO.out, hoe]; exact ⟨rfl, hb⟩)
      clear hoe
      generalize fdNum o (4294967295) = q at *
      go_wp2_with fail
      refine (HN.out _).mono ?_
      rintro e w2 ⟨rfl, hb⟩
      have hX' := (hb.block _ (lt_of_blk HX.out)).trans HX.out
      have hR' := (hb.block _ (lt_of_blk HR.out)).trans HR.out
      have hB' := bch HB.out hb
      have HX := Lib.hid hX'
      have HR := Lib.hid hR'
      have HB := Lib.hid hB'
      clear hX' hR' hB' hb
      clear c0 c1 c2 c3 c4 c5
      obtain ⟨r0, s0⟩ := cell_of_blk HR.out 0
      obtain ⟨r1, s1⟩ := cell_of_blk HR.out 1
      obtain ⟨r2, s2⟩ := cell_of_blk HR.out 2
      obtain ⟨r3, s3⟩ := cell_of_blk HR.out 3
      obtain ⟨r4, s4⟩ := cell_of_blk HR.out 4
      obtain ⟨r5, s5⟩ := cell_of_blk HR.out 5
      go_wp2_with fail
      have hr7 := (blk_set (blk_set (blk_set (blk_set (blk_set (blk_set HR.out 0 (.int .i64 q.kind)) 1 (.int .i64 q.dst)) 2 (.int .i64 q.a)) 3 (.int .i64 q.b)) 4 (.int .i64 q.c)) 5 (.int .i64 q.imm))
      have hB7 := ((((((HB.out.setCell (p := ⟨w.heap.size + 1, 0, none⟩) (by show w.heap.size ≤ w.heap.size + 1; omega) (.int .i64 q.kind)).setCell (p := ⟨w.heap.size + 1, 1, none⟩) (by show w.heap.size ≤ w.heap.size + 1; omega) (.int .i64 q.dst)).setCell (p := ⟨w.heap.size + 1, 2, none⟩) (by show w.heap.size ≤ w.heap.size + 1; omega) (.int .i64 q.a)).setCell (p := ⟨w.heap.size + 1, 3, none⟩) (by show w.heap.size ≤ w.heap.size + 1; omega) (.int .i64 q.b)).setCell (p := ⟨w.heap.size + 1, 4, none⟩) (by show w.heap.size ≤ w.heap.size + 1; omega) (.int .i64 q.c)).setCell (p := ⟨w.heap.size + 1, 5, none⟩) (by show w.heap.size ≤ w.heap.size + 1; omega) (.int .i64 q.imm))
      generalize ((((((w2.setCell ⟨w.heap.size + 1, 0, none⟩ (.int .i64 q.kind)).setCell ⟨w.heap.size + 1, 1, none⟩ (.int .i64 q.dst)).setCell ⟨w.heap.size + 1, 2, none⟩ (.int .i64 q.a)).setCell ⟨w.heap.size + 1, 3, none⟩ (.int .i64 q.b)).setCell ⟨w.heap.size + 1, 4, none⟩ (.int .i64 q.c)).setCell ⟨w.heap.size + 1, 5, none⟩ (.int .i64 q.imm)) = w7 at *
      have k0 : w7.cell? ⟨w.heap.size + 1, 0, none⟩ = some (.int .i64 q.kind) := (cell_of_blk hr7 0).1
      have k1 : w7.cell? ⟨w.heap.size + 1, 1, none⟩ = some (.int .i64 q.dst) := (cell_of_blk hr7 1).1
      have k2 : w7.cell? ⟨w.heap.size + 1, 2, none⟩ = some (.int .i64 q.a) := (cell_of_blk hr7 2).1
      have k3 : w7.cell? ⟨w.heap.size + 1, 3, none⟩ = some (.int .i64 q.b) := (cell_of_blk hr7 3).1
      have k4 : w7.cell? ⟨w.heap.size + 1, 4, none⟩ = some (.int .i64 q.c) := (cell_of_blk hr7 4).1
      have k5 : w7.cell? ⟨w.heap.size + 1, 5, none⟩ = some (.int .i64 q.imm) := (cell_of_blk hr7 5).1
      clear hr7 r0 r1 r2 r3 r4 r5 s0 s1 s2 s3 s4 s5
      refine bodyPost_ret (v := .agg #[.int .i64 q.kind, .int .i64 q.dst, .int .i64 q.a, .int .i64 q.b, .int .i64 q.c, .int .i64 q.imm]) (by simp [results, Try.results57, go_sem, k0, k1, k2, k3, k4, k5]; try rfl) rfl ?_
      exact HPP.out _ hB7
    have hn15 := hk
    clear hk
    by_cases hk : o.kind = 7
    · skip
      have q4 : (o.kind == 4) = false := by rw [beq_eq_false_iff_ne]; omega
      have q9 : (o.kind == 9) = false := by rw [beq_eq_false_iff_ne]; omega
      have q14 : (o.kind == 14) = false := by rw [beq_eq_false_iff_ne]; omega
      have q15 : (o.kind == 15) = false := by rw [beq_eq_false_iff_ne]; omega
      have q7 : (o.kind == 7) = true := by rw [beq_iff_eq]; exact hk
      have hoe : fdSame f o = fdCopied f o o.a := by unfold fdSame; rw [if_neg hna, if_neg (by omega), if_neg (by omega), if_pos (by omega)]
      clear hk hab hna
      go_enter Try.func57, Try.ntmps57
      go_upto_region 1 with (fail)
      generalize (w.alloc (.cells #[.int .i64 o.kind, .int .i64 o.dst, .int .i64 o.a, .int .i64 o.b, .int .i64 o.c, .int .i64 o.imm] 41)).alloc (.cells #[.int .i64 0, .int .i64 0, .int .i64 0, .int .i64 0, .int .i64 0, .int .i64 0] 41) = w1 at *
      have HX := Lib.hid hX
      have HR := Lib.hid hR
      have HB := Lib.hid hB
      clear hX hR hB e1
      obtain ⟨c0, c1, c2, c3, c4, c5, _, _, _, _⟩ := op_cells_at HX.out
      replace HCP := Lib.hid (HCP.out o.a HWA.out)
      have HPP : Hid (∀ w', Below w.heap.size w w' → PO (.returned (.agg #[.int .i64 (fdCopied f o o.a).kind, .int .i64 (fdCopied f o o.a).dst, .int .i64 (fdCopied f o o.a).a, .int .i64 (fdCopied f o o.a).b, .int .i64 (fdCopied f o o.a).c, .int .i64 (fdCopied f o o.a).imm])) w') := Lib.hid (fun w' hb => by rw [← HPO.out, hoe]; exact ⟨rfl, hb⟩)
      clear hoe
      generalize fdCopied f o o.a = q at *
      go_wp2_with fail
      refine (HCP.out _ HF.out).mono ?_
      rintro e w2 ⟨rfl, hb⟩
      have hX' := (hb.block _ (lt_of_blk HX.out)).trans HX.out
      have hR' := (hb.block _ (lt_of_blk HR.out)).trans HR.out
      have hB' := bch HB.out hb
      have HX := Lib.hid hX'
      have HR := Lib.hid hR'
      have HB := Lib.hid hB'
      clear hX' hR' hB' hb
      clear c0 c1 c2 c3 c4 c5
      obtain ⟨r0, s0⟩ := cell_of_blk HR.out 0
      obtain ⟨r1, s1⟩ := cell_of_blk HR.out 1
      obtain ⟨r2, s2⟩ := cell_of_blk HR.out 2
      obtain ⟨r3, s3⟩ := cell_of_blk HR.out 3
      obtain ⟨r4, s4⟩ := cell_of_blk HR.out 4
      obtain ⟨r5, s5⟩ := cell_of_blk HR.out 5
      go_wp2_with fail
      have hr7 := (blk_set (blk_set (blk_set (blk_set (blk_set (blk_set HR.out 0 (.int .i64 q.kind)) 1 (.int .i64 q.dst)) 2 (.int .i64 q.a)) 3 (.int .i64 q.b)) 4 (.int .i64 q.c)) 5 (.int .i64 q.imm))
      have hB7 := ((((((HB.out.setCell (p := ⟨w.heap.size + 1, 0, none⟩) (by show w.heap.size ≤ w.heap.size + 1; omega) (.int .i64 q.kind)).setCell (p := ⟨w.heap.size + 1, 1, none⟩) (by show w.heap.size ≤ w.heap.size + 1; omega) (.int .i64 q.dst)).setCell (p := ⟨w.heap.size + 1, 2, none⟩) (by show w.heap.size ≤ w.heap.size + 1; omega) (.int .i64 q.a)).setCell (p := ⟨w.heap.size + 1, 3, none⟩) (by show w.heap.size ≤ w.heap.size + 1; omega) (.int .i64 q.b)).setCell (p := ⟨w.heap.size + 1, 4, none⟩) (by show w.heap.size ≤ w.heap.size + 1; omega) (.int .i64 q.c)).setCell (p := ⟨w.heap.size + 1, 5, none⟩) (by show w.heap.size ≤ w.heap.size + 1; omega) (.int .i64 q.imm))
      generalize ((((((w2.setCell ⟨w.heap.size + 1, 0, none⟩ (.int .i64 q.kind)).setCell ⟨w.heap.size + 1, 1, none⟩ (.int .i64 q.dst)).setCell ⟨w.heap.size + 1, 2, none⟩ (.int .i64 q.a)).setCell ⟨w.heap.size + 1, 3, none⟩ (.int .i64 q.b)).setCell ⟨w.heap.size + 1, 4, none⟩ (.int .i64 q.c)).setCell ⟨w.heap.size + 1, 5, none⟩ (.int .i64 q.imm)) = w7 at *
      have k0 : w7.cell? ⟨w.heap.size + 1, 0, none⟩ = some (.int .i64 q.kind) := (cell_of_blk hr7 0).1
      have k1 : w7.cell? ⟨w.heap.size + 1, 1, none⟩ = some (.int .i64 q.dst) := (cell_of_blk hr7 1).1
      have k2 : w7.cell? ⟨w.heap.size + 1, 2, none⟩ = some (.int .i64 q.a) := (cell_of_blk hr7 2).1
      have k3 : w7.cell? ⟨w.heap.size + 1, 3, none⟩ = some (.int .i64 q.b) := (cell_of_blk hr7 3).1
      have k4 : w7.cell? ⟨w.heap.size + 1, 4, none⟩ = some (.int .i64 q.c) := (cell_of_blk hr7 4).1
      have k5 : w7.cell? ⟨w.heap.size + 1, 5, none⟩ = some (.int .i64 q.imm) := (cell_of_blk hr7 5).1
      clear hr7 r0 r1 r2 r3 r4 r5 s0 s1 s2 s3 s4 s5
      refine bodyPost_ret (v := .agg #[.int .i64 q.kind, .int .i64 q.dst, .int .i64 q.a, .int .i64 q.b, .int .i64 q.c, .int .i64 q.imm]) (by simp [results, Try.results57, go_sem, k0, k1, k2, k3, k4, k5]; try rfl) rfl ?_
      exact HPP.out _ hB7
    have hn7 := hk
    clear hk
    by_cases hk : o.kind = 8
    · skip
      have q4 : (o.kind == 4) = false := by rw [beq_eq_false_iff_ne]; omega
      have q9 : (o.kind == 9) = false := by rw [beq_eq_false_iff_ne]; omega
      have q14 : (o.kind == 14) = false := by rw [beq_eq_false_iff_ne]; omega
      have q15 : (o.kind == 15) = false := by rw [beq_eq_false_iff_ne]; omega
      have q7 : (o.kind == 7) = false := by rw [beq_eq_false_iff_ne]; omega
      have q8 : (o.kind == 8) = true := by rw [beq_iff_eq]; exact hk
      have hoe : fdSame f o = fdCopied f o o.a := by unfold fdSame; rw [if_neg hna, if_neg (by omega), if_neg (by omega), if_pos (by omega)]
      clear hk hab hna
      go_enter Try.func57, Try.ntmps57
      go_upto_region 1 with (fail)
      generalize (w.alloc (.cells #[.int .i64 o.kind, .int .i64 o.dst, .int .i64 o.a, .int .i64 o.b, .int .i64 o.c, .int .i64 o.imm] 41)).alloc (.cells #[.int .i64 0, .int .i64 0, .int .i64 0, .int .i64 0, .int .i64 0, .int .i64 0] 41) = w1 at *
      have HX := Lib.hid hX
      have HR := Lib.hid hR
      have HB := Lib.hid hB
      clear hX hR hB e1
      obtain ⟨c0, c1, c2, c3, c4, c5, _, _, _, _⟩ := op_cells_at HX.out
      replace HCP := Lib.hid (HCP.out o.a HWA.out)
      have HPP : Hid (∀ w', Below w.heap.size w w' → PO (.returned (.agg #[.int .i64 (fdCopied f o o.a).kind, .int .i64 (fdCopied f o o.a).dst, .int .i64 (fdCopied f o o.a).a, .int .i64 (fdCopied f o o.a).b, .int .i64 (fdCopied f o o.a).c, .int .i64 (fdCopied f o o.a).imm])) w') := Lib.hid (fun w' hb => by rw [← HPO.out, hoe]; exact ⟨rfl, hb⟩)
      clear hoe
      generalize fdCopied f o o.a = q at *
      go_wp2_with fail
      refine (HCP.out _ HF.out).mono ?_
      rintro e w2 ⟨rfl, hb⟩
      have hX' := (hb.block _ (lt_of_blk HX.out)).trans HX.out
      have hR' := (hb.block _ (lt_of_blk HR.out)).trans HR.out
      have hB' := bch HB.out hb
      have HX := Lib.hid hX'
      have HR := Lib.hid hR'
      have HB := Lib.hid hB'
      clear hX' hR' hB' hb
      clear c0 c1 c2 c3 c4 c5
      obtain ⟨r0, s0⟩ := cell_of_blk HR.out 0
      obtain ⟨r1, s1⟩ := cell_of_blk HR.out 1
      obtain ⟨r2, s2⟩ := cell_of_blk HR.out 2
      obtain ⟨r3, s3⟩ := cell_of_blk HR.out 3
      obtain ⟨r4, s4⟩ := cell_of_blk HR.out 4
      obtain ⟨r5, s5⟩ := cell_of_blk HR.out 5
      go_wp2_with fail
      have hr7 := (blk_set (blk_set (blk_set (blk_set (blk_set (blk_set HR.out 0 (.int .i64 q.kind)) 1 (.int .i64 q.dst)) 2 (.int .i64 q.a)) 3 (.int .i64 q.b)) 4 (.int .i64 q.c)) 5 (.int .i64 q.imm))
      have hB7 := ((((((HB.out.setCell (p := ⟨w.heap.size + 1, 0, none⟩) (by show w.heap.size ≤ w.heap.size + 1; omega) (.int .i64 q.kind)).setCell (p := ⟨w.heap.size + 1, 1, none⟩) (by show w.heap.size ≤ w.heap.size + 1; omega) (.int .i64 q.dst)).setCell (p := ⟨w.heap.size + 1, 2, none⟩) (by show w.heap.size ≤ w.heap.size + 1; omega) (.int .i64 q.a)).setCell (p := ⟨w.heap.size + 1, 3, none⟩) (by show w.heap.size ≤ w.heap.size + 1; omega) (.int .i64 q.b)).setCell (p := ⟨w.heap.size + 1, 4, none⟩) (by show w.heap.size ≤ w.heap.size + 1; omega) (.int .i64 q.c)).setCell (p := ⟨w.heap.size + 1, 5, none⟩) (by show w.heap.size ≤ w.heap.size + 1; omega) (.int .i64 q.imm))
      generalize ((((((w2.setCell ⟨w.heap.size + 1, 0, none⟩ (.int .i64 q.kind)).setCell ⟨w.heap.size + 1, 1, none⟩ (.int .i64 q.dst)).setCell ⟨w.heap.size + 1, 2, none⟩ (.int .i64 q.a)).setCell ⟨w.heap.size + 1, 3, none⟩ (.int .i64 q.b)).setCell ⟨w.heap.size + 1, 4, none⟩ (.int .i64 q.c)).setCell ⟨w.heap.size + 1, 5, none⟩ (.int .i64 q.imm)) = w7 at *
      have k0 : w7.cell? ⟨w.heap.size + 1, 0, none⟩ = some (.int .i64 q.kind) := (cell_of_blk hr7 0).1
      have k1 : w7.cell? ⟨w.heap.size + 1, 1, none⟩ = some (.int .i64 q.dst) := (cell_of_blk hr7 1).1
      have k2 : w7.cell? ⟨w.heap.size + 1, 2, none⟩ = some (.int .i64 q.a) := (cell_of_blk hr7 2).1
      have k3 : w7.cell? ⟨w.heap.size + 1, 3, none⟩ = some (.int .i64 q.b) := (cell_of_blk hr7 3).1
      have k4 : w7.cell? ⟨w.heap.size + 1, 4, none⟩ = some (.int .i64 q.c) := (cell_of_blk hr7 4).1
      have k5 : w7.cell? ⟨w.heap.size + 1, 5, none⟩ = some (.int .i64 q.imm) := (cell_of_blk hr7 5).1
      clear hr7 r0 r1 r2 r3 r4 r5 s0 s1 s2 s3 s4 s5
      refine bodyPost_ret (v := .agg #[.int .i64 q.kind, .int .i64 q.dst, .int .i64 q.a, .int .i64 q.b, .int .i64 q.c, .int .i64 q.imm]) (by simp [results, Try.results57, go_sem, k0, k1, k2, k3, k4, k5]; try rfl) rfl ?_
      exact HPP.out _ hB7
    have hn8 := hk
    clear hk
    have q4 : (o.kind == 4) = false := by rw [beq_eq_false_iff_ne]; assumption
    have q9 : (o.kind == 9) = false := by rw [beq_eq_false_iff_ne]; assumption
    have q14 : (o.kind == 14) = false := by rw [beq_eq_false_iff_ne]; assumption
    have q15 : (o.kind == 15) = false := by rw [beq_eq_false_iff_ne]; assumption
    have q7 : (o.kind == 7) = false := by rw [beq_eq_false_iff_ne]; assumption
    have q8 : (o.kind == 8) = false := by rw [beq_eq_false_iff_ne]; assumption
    have hoe : fdSame f o = o := by unfold fdSame; rw [if_neg hna, if_neg (by omega), if_neg (by omega), if_neg (by omega)]
    have HPP : Hid (∀ w', Below w.heap.size w w' → PO (.returned (.agg #[.int .i64 o.kind, .int .i64 o.dst, .int .i64 o.a, .int .i64 o.b, .int .i64 o.c, .int .i64 o.imm])) w') := Lib.hid (fun w' hb => by rw [← HPO.out, hoe]; exact ⟨rfl, hb⟩)
    clear hoe hab hna hn4 hn9 hn14 hn15 hn7 hn8
    go_enter Try.func57, Try.ntmps57
    go_upto_region 1 with (fail)
    generalize (w.alloc (.cells #[.int .i64 o.kind, .int .i64 o.dst, .int .i64 o.a, .int .i64 o.b, .int .i64 o.c, .int .i64 o.imm] 41)).alloc (.cells #[.int .i64 0, .int .i64 0, .int .i64 0, .int .i64 0, .int .i64 0, .int .i64 0] 41) = w1 at *
    have HX := Lib.hid hX
    have HR := Lib.hid hR
    have HB := Lib.hid hB
    clear hX hR hB e1
    obtain ⟨c0, c1, c2, c3, c4, c5, _, _, _, _⟩ := op_cells_at HX.out
    obtain ⟨r0, s0⟩ := cell_of_blk HR.out 0
    obtain ⟨r1, s1⟩ := cell_of_blk HR.out 1
    obtain ⟨r2, s2⟩ := cell_of_blk HR.out 2
    obtain ⟨r3, s3⟩ := cell_of_blk HR.out 3
    obtain ⟨r4, s4⟩ := cell_of_blk HR.out 4
    obtain ⟨r5, s5⟩ := cell_of_blk HR.out 5
    go_wp2_with fail
    clear c0 c1 c2 c3 c4 c5
    have hr7 := (blk_set (blk_set (blk_set (blk_set (blk_set (blk_set HR.out 0 (.int .i64 o.kind)) 1 (.int .i64 o.dst)) 2 (.int .i64 o.a)) 3 (.int .i64 o.b)) 4 (.int .i64 o.c)) 5 (.int .i64 o.imm))
    have hB7 := ((((((HB.out.setCell (p := ⟨w.heap.size + 1, 0, none⟩) (by show w.heap.size ≤ w.heap.size + 1; omega) (.int .i64 o.kind)).setCell (p := ⟨w.heap.size + 1, 1, none⟩) (by show w.heap.size ≤ w.heap.size + 1; omega) (.int .i64 o.dst)).setCell (p := ⟨w.heap.size + 1, 2, none⟩) (by show w.heap.size ≤ w.heap.size + 1; omega) (.int .i64 o.a)).setCell (p := ⟨w.heap.size + 1, 3, none⟩) (by show w.heap.size ≤ w.heap.size + 1; omega) (.int .i64 o.b)).setCell (p := ⟨w.heap.size + 1, 4, none⟩) (by show w.heap.size ≤ w.heap.size + 1; omega) (.int .i64 o.c)).setCell (p := ⟨w.heap.size + 1, 5, none⟩) (by show w.heap.size ≤ w.heap.size + 1; omega) (.int .i64 o.imm))
    generalize ((((((w1.setCell ⟨w.heap.size + 1, 0, none⟩ (.int .i64 o.kind)).setCell ⟨w.heap.size + 1, 1, none⟩ (.int .i64 o.dst)).setCell ⟨w.heap.size + 1, 2, none⟩ (.int .i64 o.a)).setCell ⟨w.heap.size + 1, 3, none⟩ (.int .i64 o.b)).setCell ⟨w.heap.size + 1, 4, none⟩ (.int .i64 o.c)).setCell ⟨w.heap.size + 1, 5, none⟩ (.int .i64 o.imm)) = w7 at *
    have k0 : w7.cell? ⟨w.heap.size + 1, 0, none⟩ = some (.int .i64 o.kind) := (cell_of_blk hr7 0).1
    have k1 : w7.cell? ⟨w.heap.size + 1, 1, none⟩ = some (.int .i64 o.dst) := (cell_of_blk hr7 1).1
    have k2 : w7.cell? ⟨w.heap.size + 1, 2, none⟩ = some (.int .i64 o.a) := (cell_of_blk hr7 2).1
    have k3 : w7.cell? ⟨w.heap.size + 1, 3, none⟩ = some (.int .i64 o.b) := (cell_of_blk hr7 3).1
    have k4 : w7.cell? ⟨w.heap.size + 1, 4, none⟩ = some (.int .i64 o.c) := (cell_of_blk hr7 4).1
    have k5 : w7.cell? ⟨w.heap.size + 1, 5, none⟩ = some (.int .i64 o.imm) := (cell_of_blk hr7 5).1
    clear hr7 r0 r1 r2 r3 r4 r5 s0 s1 s2 s3 s4 s5
    refine bodyPost_ret (v := .agg #[.int .i64 o.kind, .int .i64 o.dst, .int .i64 o.a, .int .i64 o.b, .int .i64 o.c, .int .i64 o.imm]) (by simp [results, Try.results57, go_sem, k0, k1, k2, k3, k4, k5]; try rfl) rfl ?_
    exact HPP.out _ hB7
  · have qab : (o.a != o.b) = true := by rw [bne_iff_ne]; exact hab
    have hoe : fdSame f o = o := by unfold fdSame; rw [if_pos hab]
    have HPP : Hid (∀ w', Below w.heap.size w w' → PO (.returned (.agg #[.int .i64 o.kind, .int .i64 o.dst, .int .i64 o.a, .int .i64 o.b, .int .i64 o.c, .int .i64 o.imm])) w') := Lib.hid (fun w' hb => by rw [← HPO.out, hoe]; exact ⟨rfl, hb⟩)
    clear hoe hab
    go_enter Try.func57, Try.ntmps57
    go_upto_region 1 with (fail)
    generalize (w.alloc (.cells #[.int .i64 o.kind, .int .i64 o.dst, .int .i64 o.a, .int .i64 o.b, .int .i64 o.c, .int .i64 o.imm] 41)).alloc (.cells #[.int .i64 0, .int .i64 0, .int .i64 0, .int .i64 0, .int .i64 0, .int .i64 0] 41) = w1 at *
    have HX := Lib.hid hX
    have HR := Lib.hid hR
    have HB := Lib.hid hB
    clear hX hR hB e1
    obtain ⟨c0, c1, c2, c3, c4, c5, _, _, _, _⟩ := op_cells_at HX.out
    obtain ⟨r0, s0⟩ := cell_of_blk HR.out 0
    obtain ⟨r1, s1⟩ := cell_of_blk HR.out 1
    obtain ⟨r2, s2⟩ := cell_of_blk HR.out 2
    obtain ⟨r3, s3⟩ := cell_of_blk HR.out 3
    obtain ⟨r4, s4⟩ := cell_of_blk HR.out 4
    obtain ⟨r5, s5⟩ := cell_of_blk HR.out 5
    go_wp2_with fail
    clear c0 c1 c2 c3 c4 c5
    have hr7 := (blk_set (blk_set (blk_set (blk_set (blk_set (blk_set HR.out 0 (.int .i64 o.kind)) 1 (.int .i64 o.dst)) 2 (.int .i64 o.a)) 3 (.int .i64 o.b)) 4 (.int .i64 o.c)) 5 (.int .i64 o.imm))
    have hB7 := ((((((HB.out.setCell (p := ⟨w.heap.size + 1, 0, none⟩) (by show w.heap.size ≤ w.heap.size + 1; omega) (.int .i64 o.kind)).setCell (p := ⟨w.heap.size + 1, 1, none⟩) (by show w.heap.size ≤ w.heap.size + 1; omega) (.int .i64 o.dst)).setCell (p := ⟨w.heap.size + 1, 2, none⟩) (by show w.heap.size ≤ w.heap.size + 1; omega) (.int .i64 o.a)).setCell (p := ⟨w.heap.size + 1, 3, none⟩) (by show w.heap.size ≤ w.heap.size + 1; omega) (.int .i64 o.b)).setCell (p := ⟨w.heap.size + 1, 4, none⟩) (by show w.heap.size ≤ w.heap.size + 1; omega) (.int .i64 o.c)).setCell (p := ⟨w.heap.size + 1, 5, none⟩) (by show w.heap.size ≤ w.heap.size + 1; omega) (.int .i64 o.imm))
    generalize ((((((w1.setCell ⟨w.heap.size + 1, 0, none⟩ (.int .i64 o.kind)).setCell ⟨w.heap.size + 1, 1, none⟩ (.int .i64 o.dst)).setCell ⟨w.heap.size + 1, 2, none⟩ (.int .i64 o.a)).setCell ⟨w.heap.size + 1, 3, none⟩ (.int .i64 o.b)).setCell ⟨w.heap.size + 1, 4, none⟩ (.int .i64 o.c)).setCell ⟨w.heap.size + 1, 5, none⟩ (.int .i64 o.imm)) = w7 at *
    have k0 : w7.cell? ⟨w.heap.size + 1, 0, none⟩ = some (.int .i64 o.kind) := (cell_of_blk hr7 0).1
    have k1 : w7.cell? ⟨w.heap.size + 1, 1, none⟩ = some (.int .i64 o.dst) := (cell_of_blk hr7 1).1
    have k2 : w7.cell? ⟨w.heap.size + 1, 2, none⟩ = some (.int .i64 o.a) := (cell_of_blk hr7 2).1
    have k3 : w7.cell? ⟨w.heap.size + 1, 3, none⟩ = some (.int .i64 o.b) := (cell_of_blk hr7 3).1
    have k4 : w7.cell? ⟨w.heap.size + 1, 4, none⟩ = some (.int .i64 o.c) := (cell_of_blk hr7 4).1
    have k5 : w7.cell? ⟨w.heap.size + 1, 5, none⟩ = some (.int .i64 o.imm) := (cell_of_blk hr7 5).1
    clear hr7 r0 r1 r2 r3 r4 r5 s0 s1 s2 s3 s4 s5
    refine bodyPost_ret (v := .agg #[.int .i64 o.kind, .int .i64 o.dst, .int .i64 o.a, .int .i64 o.b, .int .i64 o.c, .int .i64 o.imm]) (by simp [results, Try.results57, go_sem, k0, k1, k2, k3, k4, k5]; try rfl) rfl ?_
    exact HPP.out _ hB7
end Go.Proofs.Ytfadeipdepamlaa
