/- Parts of a proof. No condition but those that each theorem names. -/
import Derived.WalkKit
import Derived.OpenShut
import Derived.Below
import Derived.Lib.Hide
import Derived.Laws.OwnMore
import Derived.Deep.QuietTactic
import Derived.Deep.AppendLies
import Derived.ProofKit
import Derived.SizedLaws
import Derived.Test.YtfadeipdepamlaaProg
import Derived.Handy
import Derived.Deep.RegionHeld3
import Derived.BigQuiet
import Derived.Maps.AppendAt
import Derived.Maps.RangeWalk
import Derived.Maps.OwnSet
import Derived.StillTailTactics
import Derived.Laws.CopyOwn
import Derived.Lib.BufferWrite
import Derived.OrdersHeld
import Derived.RegionTactic
import Derived.Deep.DeepCutAuto
import Derived.Test.YtfadeipdepamlaaSeG0e0
import Derived.Test.YtfadeipdepamlaaSeG0e1
import Derived.Test.YtfadeipdepamlaaSeG0e2
import Derived.Test.YtfadeipdepamlaaSeG0e4
import Derived.Test.YtfadeipdepamlaaSeIrC
import Derived.Test.YtfadeipdepamlaaSeG1e5
import Derived.Test.YtfadeipdepamlaaSeG1e6
import Derived.Test.YtfadeipdepamlaaSeG0e8
import Derived.Test.YtfadeipdepamlaaSeG0e9
import Derived.Test.YtfadeipdepamlaaSeG0e11
import Derived.Test.YtfadeipdepamlaaSeG1e13
import Derived.Test.YtfadeipdepamlaaSeG1e14
import Derived.Test.YtfadeipdepamlaaSeFoldM
namespace Go.Proofs.Ytfadeipdepamlaa
open Go.RowKit Go.Maps
set_option linter.unusedVariables false
/-- The folder in memory. -/
structure FoAt (w : World) (F b n : Nat) (f : Int → Option Int) : Prop where
  box : w.heap[F]? = some (.cells #[.map (some b)] 51 (0, 0))
  mp : MapAt w b n f
theorem FoAt.below {w w' : World} {F b n : Nat} {f : Int → Option Int} (h : FoAt w F b n f) (hb : Below w.heap.size w w') : FoAt w' F b n f := ⟨(hb.block _ (lt_of_blk h.box)).trans h.box, h.mp.below hb⟩
theorem FoAt.look {w : World} {F b n : Nat} {f : Int → Option Int} (h : FoAt w F b n f) {t : Int} (ht : (Lit.int .i64 t).wf = true) : (Instr.lookup 49 (.map (some b)) (.int .i64 t) true).run Try.prog w = .ok (.tuple #[.int .i64 ((f t).getD 0), .bool (f t).isSome]) w := h.mp.look Try.underlying49 t ht
theorem FoAt.cell {w : World} {F b n : Nat} {f : Int → Option Int} (h : FoAt w F b n f) : w.cell? ⟨F, 0, none⟩ = some (.map (some b)) := (cell_of_blk h.box 0).1
set_option maxRecDepth 100000 in
set_option maxHeartbeats 4000000 in
theorem fold_is (F b n : Nat) (f : Int → Option Int) (t m : Int) (ht : (Lit.int .i64 t).wf = true) (w : World) (h : FoAt w F b n f) :
    Calls Try.prog 76 #[.pointer (some ⟨F, 0, none⟩), .int .i64 t, .int .i64 m] w fun e w' => e = .returned (.bool (fdIs f t m)) ∧ w = w' := by
  have c0 := h.cell
  have hlk := h.look ht
  clear h
  unfold fdIs
  cases hf : f t with
  | none =>
    rw [hf] at hlk
    simp only [Option.getD_none, Option.isSome_none] at hlk
    clear hf
    go_enter Try.func76, Try.ntmps76
    go_wp2_with fail
    go_ret
    exact ⟨ret_bool (by simp), rfl⟩
  | some c =>
    rw [hf] at hlk
    simp only [Option.getD_some, Option.isSome_some] at hlk
    clear hf
    go_enter Try.func76, Try.ntmps76
    go_wp2_with fail
    go_ret
    refine ⟨ret_bool ?_, rfl⟩
    by_cases hc : c = m
    · subst hc; simp
    · have q : (c == m) = false := by rw [beq_eq_false_iff_ne]; exact hc
      simp [hc]
set_option maxRecDepth 100000 in
set_option maxHeartbeats 4000000 in
theorem fold_number (o : Opn) (n : Int) (w : World) : Calls Try.prog 55 #[opVal o, .int .i64 n] w (CopPost (fdNum o n) w) := by
  unfold CopPost opVal fdNum
  have e1 := alloc_size w (.cells #[.int .i64 o.kind, .int .i64 o.dst, .int .i64 o.a, .int .i64 o.b, .int .i64 o.c, .int .i64 o.imm] 41) rfl
  have hX := alloc_old (alloc_last w _ rfl (.cells #[.int .i64 o.kind, .int .i64 o.dst, .int .i64 o.a, .int .i64 o.b, .int .i64 o.c, .int .i64 o.imm] 41)) (.cells #[.int .i64 0, .int .i64 0, .int .i64 0, .int .i64 0, .int .i64 0, .int .i64 0] 41)
  have hR := alloc_last _ _ e1 (.cells #[.int .i64 0, .int .i64 0, .int .i64 0, .int .i64 0, .int .i64 0, .int .i64 0] 41)
  have hB := bal (bnew w (.cells #[.int .i64 o.kind, .int .i64 o.dst, .int .i64 o.a, .int .i64 o.b, .int .i64 o.c, .int .i64 o.imm] 41)) (.cells #[.int .i64 0, .int .i64 0, .int .i64 0, .int .i64 0, .int .i64 0, .int .i64 0] 41)
  go_enter Try.func55, Try.ntmps55
  go_upto_region 1 with (fail)
  generalize (w.alloc (.cells #[.int .i64 o.kind, .int .i64 o.dst, .int .i64 o.a, .int .i64 o.b, .int .i64 o.c, .int .i64 o.imm] 41)).alloc (.cells #[.int .i64 0, .int .i64 0, .int .i64 0, .int .i64 0, .int .i64 0, .int .i64 0] 41) = w1 at *
  have HX := Lib.hid hX
  have HR := Lib.hid hR
  have HB := Lib.hid hB
  clear hX hR hB e1
  obtain ⟨c0, c1, c2, c3, c4, c5, _, _, _, _⟩ := op_cells_at HX.out
  obtain ⟨r0, s0⟩ := cell_of_blk HR.out 0
  obtain ⟨r1, s1⟩ := cell_of_blk HR.out 1
  obtain ⟨r2, s2⟩ := cell_of_blk HR.out 2
  obtain ⟨r3, s3⟩ := cell_of_blk HR.out 3
  obtain ⟨r4, s4⟩ := cell_of_blk HR.out 4
  obtain ⟨r5, s5⟩ := cell_of_blk HR.out 5
  go_wp2_with fail
  clear c0 c1 c2 c3 c4 c5
  have hr7 := (blk_set (blk_set (blk_set (blk_set (blk_set (blk_set HR.out 0 (.int .i64 1)) 1 (.int .i64 o.dst)) 2 (.int .i64 0)) 3 (.int .i64 0)) 4 (.int .i64 0)) 5 (.int .i64 n))
  have hB7 := ((((((HB.out.setCell (p := ⟨w.heap.size + 1, 0, none⟩) (by show w.heap.size ≤ w.heap.size + 1; omega) (.int .i64 1)).setCell (p := ⟨w.heap.size + 1, 1, none⟩) (by show w.heap.size ≤ w.heap.size + 1; omega) (.int .i64 o.dst)).setCell (p := ⟨w.heap.size + 1, 2, none⟩) (by show w.heap.size ≤ w.heap.size + 1; omega) (.int .i64 0)).setCell (p := ⟨w.heap.size + 1, 3, none⟩) (by show w.heap.size ≤ w.heap.size + 1; omega) (.int .i64 0)).setCell (p := ⟨w.heap.size + 1, 4, none⟩) (by show w.heap.size ≤ w.heap.size + 1; omega) (.int .i64 0)).setCell (p := ⟨w.heap.size + 1, 5, none⟩) (by show w.heap.size ≤ w.heap.size + 1; omega) (.int .i64 n))
  generalize ((((((w1.setCell ⟨w.heap.size + 1, 0, none⟩ (.int .i64 1)).setCell ⟨w.heap.size + 1, 1, none⟩ (.int .i64 o.dst)).setCell ⟨w.heap.size + 1, 2, none⟩ (.int .i64 0)).setCell ⟨w.heap.size + 1, 3, none⟩ (.int .i64 0)).setCell ⟨w.heap.size + 1, 4, none⟩ (.int .i64 0)).setCell ⟨w.heap.size + 1, 5, none⟩ (.int .i64 n)) = w7 at *
  have k0 : w7.cell? ⟨w.heap.size + 1, 0, none⟩ = some (.int .i64 1) := (cell_of_blk hr7 0).1
  have k1 : w7.cell? ⟨w.heap.size + 1, 1, none⟩ = some (.int .i64 o.dst) := (cell_of_blk hr7 1).1
  have k2 : w7.cell? ⟨w.heap.size + 1, 2, none⟩ = some (.int .i64 0) := (cell_of_blk hr7 2).1
  have k3 : w7.cell? ⟨w.heap.size + 1, 3, none⟩ = some (.int .i64 0) := (cell_of_blk hr7 3).1
  have k4 : w7.cell? ⟨w.heap.size + 1, 4, none⟩ = some (.int .i64 0) := (cell_of_blk hr7 4).1
  have k5 : w7.cell? ⟨w.heap.size + 1, 5, none⟩ = some (.int .i64 n) := (cell_of_blk hr7 5).1
  clear hr7 r0 r1 r2 r3 r4 r5 s0 s1 s2 s3 s4 s5
  refine bodyPost_ret (v := .agg #[.int .i64 1, .int .i64 o.dst, .int .i64 0, .int .i64 0, .int .i64 0, .int .i64 n]) (by simp [results, Try.results55, go_sem, k0, k1, k2, k3, k4, k5]; try rfl) rfl ?_
  exact ⟨rfl, hB7⟩
set_option maxRecDepth 100000 in
set_option maxHeartbeats 4000000 in
theorem fold_copied (F b n : Nat) (f : Int → Option Int) (o : Opn) (t : Int) (ht : (Lit.int .i64 t).wf = true) (w : World) (h : FoAt w F b n f) :
    Calls Try.prog 77 #[.pointer (some ⟨F, 0, none⟩), opVal o, .int .i64 t] w (CopPost (fdCopied f o t) w) := by
  have HN := Lib.hid (fun m W => fold_number o m W)
  unfold CopPost opVal at HN ⊢
  cases hf : f t with
  | some c =>
    have hq : fdCopied f o t = fdNum o c := by unfold fdCopied; rw [hf]
    rw [hq]
    replace HN := Lib.hid (HN.out c)
    generalize fdNum o c = q at *
    clear hq
    have e1 := alloc_size w (.cells #[.int .i64 o.kind, .int .i64 o.dst, .int .i64 o.a, .int .i64 o.b, .int .i64 o.c, .int .i64 o.imm] 41) rfl
    have hX := alloc_old (alloc_last w _ rfl (.cells #[.int .i64 o.kind, .int .i64 o.dst, .int .i64 o.a, .int .i64 o.b, .int .i64 o.c, .int .i64 o.imm] 41)) (.cells #[.int .i64 0, .int .i64 0, .int .i64 0, .int .i64 0, .int .i64 0, .int .i64 0] 41)
    have hR := alloc_last _ _ e1 (.cells #[.int .i64 0, .int .i64 0, .int .i64 0, .int .i64 0, .int .i64 0, .int .i64 0] 41)
    have hB := bal (bnew w (.cells #[.int .i64 o.kind, .int .i64 o.dst, .int .i64 o.a, .int .i64 o.b, .int .i64 o.c, .int .i64 o.imm] 41)) (.cells #[.int .i64 0, .int .i64 0, .int .i64 0, .int .i64 0, .int .i64 0, .int .i64 0] 41)
    have hF := (h.below hB)
    have d0 := hF.cell
    have hlk := hF.look ht
    rw [hf] at hlk
    simp only [Option.getD_some, Option.isSome_some] at hlk
    clear h hF hf
    go_enter Try.func77, Try.ntmps77
    go_upto_region 1 with (fail)
    generalize (w.alloc (.cells #[.int .i64 o.kind, .int .i64 o.dst, .int .i64 o.a, .int .i64 o.b, .int .i64 o.c, .int .i64 o.imm] 41)).alloc (.cells #[.int .i64 0, .int .i64 0, .int .i64 0, .int .i64 0, .int .i64 0, .int .i64 0] 41) = w1 at *
    have HX := Lib.hid hX
    have HR := Lib.hid hR
    have HB := Lib.hid hB
    clear hX hR hB e1
    obtain ⟨c0, c1, c2, c3, c4, c5, _, _, _, _⟩ := op_cells_at HX.out
    go_wp2_with fail
    refine (HN.out _).mono ?_
    rintro e w2 ⟨rfl, hb⟩
    have hX' := (hb.block _ (lt_of_blk HX.out)).trans HX.out
    have hR' := (hb.block _ (lt_of_blk HR.out)).trans HR.out
    have hB' := bch HB.out hb
    have HX := Lib.hid hX'
    have HR := Lib.hid hR'
    have HB := Lib.hid hB'
    clear hX' hR' hB' hb
    clear c0 c1 c2 c3 c4 c5
    obtain ⟨r0, s0⟩ := cell_of_blk HR.out 0
    obtain ⟨r1, s1⟩ := cell_of_blk HR.out 1
    obtain ⟨r2, s2⟩ := cell_of_blk HR.out 2
    obtain ⟨r3, s3⟩ := cell_of_blk HR.out 3
    obtain ⟨r4, s4⟩ := cell_of_blk HR.out 4
    obtain ⟨r5, s5⟩ := cell_of_blk HR.out 5
    go_wp2_with fail
    have hr7 := (blk_set (blk_set (blk_set (blk_set (blk_set (blk_set HR.out 0 (.int .i64 q.kind)) 1 (.int .i64 q.dst)) 2 (.int .i64 q.a)) 3 (.int .i64 q.b)) 4 (.int .i64 q.c)) 5 (.int .i64 q.imm))
    have hB7 := ((((((HB.out.setCell (p := ⟨w.heap.size + 1, 0, none⟩) (by show w.heap.size ≤ w.heap.size + 1; omega) (.int .i64 q.kind)).setCell (p := ⟨w.heap.size + 1, 1, none⟩) (by show w.heap.size ≤ w.heap.size + 1; omega) (.int .i64 q.dst)).setCell (p := ⟨w.heap.size + 1, 2, none⟩) (by show w.heap.size ≤ w.heap.size + 1; omega) (.int .i64 q.a)).setCell (p := ⟨w.heap.size + 1, 3, none⟩) (by show w.heap.size ≤ w.heap.size + 1; omega) (.int .i64 q.b)).setCell (p := ⟨w.heap.size + 1, 4, none⟩) (by show w.heap.size ≤ w.heap.size + 1; omega) (.int .i64 q.c)).setCell (p := ⟨w.heap.size + 1, 5, none⟩) (by show w.heap.size ≤ w.heap.size + 1; omega) (.int .i64 q.imm))
    generalize ((((((w2.setCell ⟨w.heap.size + 1, 0, none⟩ (.int .i64 q.kind)).setCell ⟨w.heap.size + 1, 1, none⟩ (.int .i64 q.dst)).setCell ⟨w.heap.size + 1, 2, none⟩ (.int .i64 q.a)).setCell ⟨w.heap.size + 1, 3, none⟩ (.int .i64 q.b)).setCell ⟨w.heap.size + 1, 4, none⟩ (.int .i64 q.c)).setCell ⟨w.heap.size + 1, 5, none⟩ (.int .i64 q.imm)) = w7 at *
    have k0 : w7.cell? ⟨w.heap.size + 1, 0, none⟩ = some (.int .i64 q.kind) := (cell_of_blk hr7 0).1
    have k1 : w7.cell? ⟨w.heap.size + 1, 1, none⟩ = some (.int .i64 q.dst) := (cell_of_blk hr7 1).1
    have k2 : w7.cell? ⟨w.heap.size + 1, 2, none⟩ = some (.int .i64 q.a) := (cell_of_blk hr7 2).1
    have k3 : w7.cell? ⟨w.heap.size + 1, 3, none⟩ = some (.int .i64 q.b) := (cell_of_blk hr7 3).1
    have k4 : w7.cell? ⟨w.heap.size + 1, 4, none⟩ = some (.int .i64 q.c) := (cell_of_blk hr7 4).1
    have k5 : w7.cell? ⟨w.heap.size + 1, 5, none⟩ = some (.int .i64 q.imm) := (cell_of_blk hr7 5).1
    clear hr7 r0 r1 r2 r3 r4 r5 s0 s1 s2 s3 s4 s5
    refine bodyPost_ret (v := .agg #[.int .i64 q.kind, .int .i64 q.dst, .int .i64 q.a, .int .i64 q.b, .int .i64 q.c, .int .i64 q.imm]) (by simp [results, Try.results77, go_sem, k0, k1, k2, k3, k4, k5]; try rfl) rfl ?_
    exact ⟨rfl, hB7⟩
  | none =>
    have hq : fdCopied f o t = ⟨2, o.dst, t, 0, 0, 0⟩ := by unfold fdCopied; rw [hf]
    rw [hq]
    clear hq
    have e1 := alloc_size w (.cells #[.int .i64 o.kind, .int .i64 o.dst, .int .i64 o.a, .int .i64 o.b, .int .i64 o.c, .int .i64 o.imm] 41) rfl
    have hX := alloc_old (alloc_last w _ rfl (.cells #[.int .i64 o.kind, .int .i64 o.dst, .int .i64 o.a, .int .i64 o.b, .int .i64 o.c, .int .i64 o.imm] 41)) (.cells #[.int .i64 0, .int .i64 0, .int .i64 0, .int .i64 0, .int .i64 0, .int .i64 0] 41)
    have hR := alloc_last _ _ e1 (.cells #[.int .i64 0, .int .i64 0, .int .i64 0, .int .i64 0, .int .i64 0, .int .i64 0] 41)
    have hB := bal (bnew w (.cells #[.int .i64 o.kind, .int .i64 o.dst, .int .i64 o.a, .int .i64 o.b, .int .i64 o.c, .int .i64 o.imm] 41)) (.cells #[.int .i64 0, .int .i64 0, .int .i64 0, .int .i64 0, .int .i64 0, .int .i64 0] 41)
    have hF := (h.below hB)
    have d0 := hF.cell
    have hlk := hF.look ht
    rw [hf] at hlk
    simp only [Option.getD_none, Option.isSome_none] at hlk
    clear h hF hf
    go_enter Try.func77, Try.ntmps77
    go_upto_region 1 with (fail)
    generalize (w.alloc (.cells #[.int .i64 o.kind, .int .i64 o.dst, .int .i64 o.a, .int .i64 o.b, .int .i64 o.c, .int .i64 o.imm] 41)).alloc (.cells #[.int .i64 0, .int .i64 0, .int .i64 0, .int .i64 0, .int .i64 0, .int .i64 0] 41) = w1 at *
    have HX := Lib.hid hX
    have HR := Lib.hid hR
    have HB := Lib.hid hB
    clear hX hR hB e1
    obtain ⟨c0, c1, c2, c3, c4, c5, _, _, _, _⟩ := op_cells_at HX.out
    obtain ⟨r0, s0⟩ := cell_of_blk HR.out 0
    obtain ⟨r1, s1⟩ := cell_of_blk HR.out 1
    obtain ⟨r2, s2⟩ := cell_of_blk HR.out 2
    obtain ⟨r3, s3⟩ := cell_of_blk HR.out 3
    obtain ⟨r4, s4⟩ := cell_of_blk HR.out 4
    obtain ⟨r5, s5⟩ := cell_of_blk HR.out 5
    go_wp2_with fail
    clear c0 c1 c2 c3 c4 c5
    have hr7 := (blk_set (blk_set (blk_set (blk_set (blk_set (blk_set HR.out 0 (.int .i64 2)) 1 (.int .i64 o.dst)) 2 (.int .i64 t)) 3 (.int .i64 0)) 4 (.int .i64 0)) 5 (.int .i64 0))
    have hB7 := ((((((HB.out.setCell (p := ⟨w.heap.size + 1, 0, none⟩) (by show w.heap.size ≤ w.heap.size + 1; omega) (.int .i64 2)).setCell (p := ⟨w.heap.size + 1, 1, none⟩) (by show w.heap.size ≤ w.heap.size + 1; omega) (.int .i64 o.dst)).setCell (p := ⟨w.heap.size + 1, 2, none⟩) (by show w.heap.size ≤ w.heap.size + 1; omega) (.int .i64 t)).setCell (p := ⟨w.heap.size + 1, 3, none⟩) (by show w.heap.size ≤ w.heap.size + 1; omega) (.int .i64 0)).setCell (p := ⟨w.heap.size + 1, 4, none⟩) (by show w.heap.size ≤ w.heap.size + 1; omega) (.int .i64 0)).setCell (p := ⟨w.heap.size + 1, 5, none⟩) (by show w.heap.size ≤ w.heap.size + 1; omega) (.int .i64 0))
    generalize ((((((w1.setCell ⟨w.heap.size + 1, 0, none⟩ (.int .i64 2)).setCell ⟨w.heap.size + 1, 1, none⟩ (.int .i64 o.dst)).setCell ⟨w.heap.size + 1, 2, none⟩ (.int .i64 t)).setCell ⟨w.heap.size + 1, 3, none⟩ (.int .i64 0)).setCell ⟨w.heap.size + 1, 4, none⟩ (.int .i64 0)).setCell ⟨w.heap.size + 1, 5, none⟩ (.int .i64 0)) = w7 at *
    have k0 : w7.cell? ⟨w.heap.size + 1, 0, none⟩ = some (.int .i64 2) := (cell_of_blk hr7 0).1
    have k1 : w7.cell? ⟨w.heap.size + 1, 1, none⟩ = some (.int .i64 o.dst) := (cell_of_blk hr7 1).1
    have k2 : w7.cell? ⟨w.heap.size + 1, 2, none⟩ = some (.int .i64 t) := (cell_of_blk hr7 2).1
    have k3 : w7.cell? ⟨w.heap.size + 1, 3, none⟩ = some (.int .i64 0) := (cell_of_blk hr7 3).1
    have k4 : w7.cell? ⟨w.heap.size + 1, 4, none⟩ = some (.int .i64 0) := (cell_of_blk hr7 4).1
    have k5 : w7.cell? ⟨w.heap.size + 1, 5, none⟩ = some (.int .i64 0) := (cell_of_blk hr7 5).1
    clear hr7 r0 r1 r2 r3 r4 r5 s0 s1 s2 s3 s4 s5
    refine bodyPost_ret (v := .agg #[.int .i64 2, .int .i64 o.dst, .int .i64 t, .int .i64 0, .int .i64 0, .int .i64 0]) (by simp [results, Try.results77, go_sem, k0, k1, k2, k3, k4, k5]; try rfl) rfl ?_
    exact ⟨rfl, hB7⟩
def arrR (f : Int → Option Int) (o : Opn) (m : Nat) : Array Value := #[.int .i64 (if 0 < m then (f o.a).getD 0 else 0), .int .i64 (if 1 < m then (f o.b).getD 0 else 0), .int .i64 (if 2 < m then (f o.c).getD 0 else 0)]
theorem arrR_step (f : Int → Option Int) (o : Opn) (m : Nat) (hm : m < 3) (c : Int) (h : f ([o.a, o.b, o.c].getD m 0) = some c) : (arrR f o m).setIfInBounds m (.int .i64 c) = arrR f o (m + 1) := by
  unfold arrR
  match m, hm with
  | 0, _ => have h : f o.a = some c := h
            simp [h]
  | 1, _ => have h : f o.b = some c := h
            simp [h]
  | 2, _ => have h : f o.c = some c := h
            simp [h]
theorem arrR_at (f : Int → Option Int) (o : Opn) (m : Nat) (hm : m < 3) : (arrR f o m)[m]? = some (.int .i64 0) := by
  unfold arrR
  match m, hm with
  | 0, _ => rfl
  | 1, _ => rfl
  | 2, _ => rfl
def ReckPost (r : Option Int) (w : World) (e : Ending) (w' : World) : Prop := e = .returned (.tuple #[.int .i64 (r.getD 0), .bool r.isSome]) ∧ Below w.heap.size w w'
theorem reck_none {f : Int → Option Int} {o : Opn} {m : Nat} (hm : m < fSrc o.kind) (h : f ([o.a, o.b, o.c].getD m 0) = none) : fdReck f o = none := by
  have h3 := fSrc_le o.kind
  unfold fdReck
  rw [if_neg]
  rintro ⟨h0, h1, h2⟩
  have hx : ∀ t j, j < fSrc o.kind → f t = none → fdHas f o j t = false := fun t j hj ht => by unfold fdHas; rw [decide_eq_true hj, ht]; rfl
  match m, hm with
  | 0, hm => rw [hx o.a 0 hm h] at h0; cases h0
  | 1, hm => rw [hx o.b 1 hm h] at h1; cases h1
  | 2, hm => rw [hx o.c 2 hm h] at h2; cases h2
  | m + 3, hm => omega
theorem reck_all {f : Int → Option Int} {o : Opn} (h : ∀ m, m < fSrc o.kind → (f ([o.a, o.b, o.c].getD m 0)).isSome = true) : fdReck f o = (valP o (if 0 < fSrc o.kind then (f o.a).getD 0 else 0) (if 1 < fSrc o.kind then (f o.b).getD 0 else 0) (if 2 < fSrc o.kind then (f o.c).getD 0 else 0)).map Int.ofNat := by
  have hx : ∀ t j, (j < fSrc o.kind → (f t).isSome = true) → fdHas f o j t = true := fun t j ht => by
    unfold fdHas
    by_cases hj : j < fSrc o.kind
    · rw [ht hj]; simp
    · rw [decide_eq_false hj]; rfl
  unfold fdReck
  rw [if_pos ⟨hx o.a 0 (h 0), hx o.b 1 (h 1), hx o.c 2 (h 2)⟩]
  rfl
set_option maxRecDepth 100000 in
set_option maxHeartbeats 4000000 in
theorem fold_reckoned (F b n : Nat) (f : Int → Option Int) (o : Opn) (hf : o.fine) (w : World) (h : FoAt w F b n f) :
    Calls Try.prog 54 #[.pointer (some ⟨F, 0, none⟩), opVal o] w (ReckPost (fdReck f o) w) := by
  have HU := Lib.hid (fun W => ir_Uses o W)
  have HVL := Lib.hid (fun x y z W => ir_Value o x y z W)
  have HWF : Hid (∀ m, m < 3 → (Lit.int .i64 ([o.a, o.b, o.c].getD m 0)).wf = true) := Lib.hid (fun m hm => by
    match m, hm with
    | 0, _ => exact intR_lit hf.2.2.1
    | 1, _ => exact intR_lit hf.2.2.2.1
    | 2, _ => exact intR_lit hf.2.2.2.2.1)
  have HNO := Lib.hid (fun m => @reck_none f o m)
  have HAL := Lib.hid (@reck_all f o)
  have h3 := fSrc_le o.kind
  generalize hPO : ReckPost (fdReck f o) w = PO
  have HPO := Lib.hid hPO
  unfold opVal at HU HVL ⊢
  generalize fSrc o.kind = ns at *
  have e1 := alloc_size w (.cells #[.int .i64 o.kind, .int .i64 o.dst, .int .i64 o.a, .int .i64 o.b, .int .i64 o.c, .int .i64 o.imm] 41) rfl
  have hX := alloc_old (alloc_last w _ rfl (.cells #[.int .i64 o.kind, .int .i64 o.dst, .int .i64 o.a, .int .i64 o.b, .int .i64 o.c, .int .i64 o.imm] 41)) (.cells #[.int .i64 0, .int .i64 0, .int .i64 0] 74)
  have hR := alloc_last _ _ e1 (.cells #[.int .i64 0, .int .i64 0, .int .i64 0] 74)
  have hB := bal (bnew w (.cells #[.int .i64 o.kind, .int .i64 o.dst, .int .i64 o.a, .int .i64 o.b, .int .i64 o.c, .int .i64 o.imm] 41)) (.cells #[.int .i64 0, .int .i64 0, .int .i64 0] 74)
  have hF := h.below hB
  have HFL := Lib.hid (lt_of_blk h.box)
  have HMB := Lib.hid h.mp.lt
  clear hPO hf h
  go_enter Try.func54, Try.ntmps54
  go_upto_region 2 with (fail)
  generalize (w.alloc (.cells #[.int .i64 o.kind, .int .i64 o.dst, .int .i64 o.a, .int .i64 o.b, .int .i64 o.c, .int .i64 o.imm] 41)).alloc (.cells #[.int .i64 0, .int .i64 0, .int .i64 0] 74) = w1 at *
  have HX := Lib.hid hX
  have HR := Lib.hid hR
  have HB := Lib.hid hB
  have HF := Lib.hid hF
  clear hX hR hB hF e1
  obtain ⟨c0, c1, c2, c3, c4, c5, _, _, _, _⟩ := op_cells_at HX.out
  go_wp2_with fail
  refine (HU.out _).mono ?_
  rintro e w2 ⟨g, rfl, hg, hgl, hb⟩
  have HG := Lib.hid hg
  have HX2 := Lib.hid ((hb.block _ (lt_of_blk HX.out)).trans HX.out)
  have HR2 := Lib.hid ((hb.block _ (lt_of_blk HR.out)).trans HR.out)
  have HB2 := Lib.hid (bch HB.out hb)
  have HF2 := Lib.hid (HF.out.below hb)
  have HGL : Hid (w.heap.size + 2 ≤ g) := Lib.hid (by have := lt_of_blk HR.out; omega)
  clear hg hgl hb c0 c1 c2 c3 c4 c5
  go_wp2_with fail
  go_loopw [14] (fun vi wr => ∃ (m : Nat), m ≤ ns ∧ vi = .int .i64 m ∧ wr.heap[w.heap.size]? = some (.cells #[.int .i64 o.kind, .int .i64 o.dst, .int .i64 o.a, .int .i64 o.b, .int .i64 o.c, .int .i64 o.imm] 41 (0, 0)) ∧ wr.heap[w.heap.size + 1]? = some (.cells (arrR f o m) 74 (0, 0)) ∧ wr.heap[g]? = some (.cells #[.int .i64 o.a, .int .i64 o.b, .int .i64 o.c] 3 (0, 0)) ∧ FoAt wr F b n f ∧ Below w.heap.size w wr ∧ ∀ j, j < m → (f ([o.a, o.b, o.c].getD j 0)).isSome = true) (fun vi _ => ns - (intOf vi).toNat)
  case atStart => exact ⟨0, Nat.zero_le _, rfl, HX2.out, HR2.out, HG.out, HF2.out, HB2.out, fun j hj => by omega⟩
  case round =>
    obtain ⟨m, hm, rfl, hx, hr, hg, hF, hB, hall⟩ := hrel
    have HX3 := Lib.hid hx
    have HR3 := Lib.hid hr
    have HG3 := Lib.hid hg
    have HF3 := Lib.hid hF
    have HB3 := Lib.hid hB
    have HALL := Lib.hid hall
    clear hx hr hg hF hB hall HX2 HR2 HB2 HF2 HG
    by_cases hlt : m < ns
    · have hm3 : m < 3 := by omega
      have ht := HWF.out m hm3
      have y1 : wr.cell? ⟨g, m, none⟩ = some (.int .i64 ([o.a, o.b, o.c].getD m 0)) := by
        rw [(cell_of_blk HG3.out m).1]
        match m, hm3 with
        | 0, _ => rfl
        | 1, _ => rfl
        | 2, _ => rfl
      have HST := Lib.hid (fun c => arrR_step f o m hm3 c)
      have HNN := Lib.hid (HNO.out m hlt)
      have HLS : Hid ((f ([o.a, o.b, o.c].getD m 0)).isSome = true → ∀ j, j < m + 1 → (f ([o.a, o.b, o.c].getD j 0)).isSome = true) := Lib.hid (fun hs j hj => by
        by_cases e : j = m
        · rw [e]; exact hs
        · exact HALL.out j (by omega))
      generalize [o.a, o.b, o.c].getD m 0 = t at *
      have m0 : (0 : Int) ≤ (m : Int) := by omega
      have m1 : (m : Int) < (ns : Int) := by omega
      have m2 : (m : Int) < 3 := by omega
      have d0 := HF3.out.cell
      have z0 := (cell_of_blk HR3.out m).1
      rw [arrR_at f o m hm3] at z0
      have z1 := (cell_of_blk HR3.out m).2
      have hlk := HF3.out.look ht
      cases hft : f t with
      | some c =>
        rw [hft] at hlk
        simp only [Option.getD_some, Option.isSome_some] at hlk
        have HHS := Lib.hid (HLS.out (by rw [hft]; rfl))
        have HR4 := Lib.hid (blk_set HR3.out m (.int .i64 c))
        have hst := HST.out c hft
        rw [hst] at HR4
        have hlf := HFL.out
        have hgl := HGL.out
        have HX4 := Lib.hid (blk_far HX3.out ⟨w.heap.size + 1, m, none⟩ (.int .i64 c) (by show w.heap.size + 1 ≠ w.heap.size; omega))
        have HG4 := Lib.hid (blk_far HG3.out ⟨w.heap.size + 1, m, none⟩ (.int .i64 c) (by show w.heap.size + 1 ≠ g; omega))
        have HF4 : Hid (FoAt (wr.setCell ⟨w.heap.size + 1, m, none⟩ (.int .i64 c)) F b n f) := Lib.hid ⟨blk_far HF3.out.box ⟨w.heap.size + 1, m, none⟩ (.int .i64 c) (by show w.heap.size + 1 ≠ F; omega), HF3.out.mp.setCell ⟨w.heap.size + 1, m, none⟩ (.int .i64 c) (by show w.heap.size + 1 ≠ b; have := HMB.out; omega)⟩
        have HB4 := Lib.hid (HB3.out.setCell (p := ⟨w.heap.size + 1, m, none⟩) (by show w.heap.size ≤ w.heap.size + 1; omega) (.int .i64 c))
        clear hst hft hlf hgl
        go_wp2_with fail
        go_roundw
        case rel => exact ⟨m + 1, by omega, by go_num, HX4.out, HR4.out, HG4.out, HF4.out, HB4.out, HHS.out⟩
        case measure => simp [intOf]; omega
      | none =>
        rw [hft] at hlk
        simp only [Option.getD_none, Option.isSome_none] at hlk
        have hrn := HNN.out hft
        rw [hrn] at HPO
        clear hft hrn
        go_wp2_with fail
        rw [← HPO.out]
        exact ⟨rfl, HB3.out⟩
    · obtain rfl : m = ns := by omega
      have hra := HAL.out HALL.out
      rw [hra] at HPO
      clear hra
      obtain ⟨c0, c1, c2, c3, c4, c5, _, _, _, _⟩ := op_cells_at HX3.out
      have z0 : wr.cell? ⟨w.heap.size + 1, 0, none⟩ = some (.int .i64 (if 0 < m then (f o.a).getD 0 else 0)) := (cell_of_blk HR3.out 0).1
      have z1 : wr.cell? ⟨w.heap.size + 1, 1, none⟩ = some (.int .i64 (if 1 < m then (f o.b).getD 0 else 0)) := (cell_of_blk HR3.out 1).1
      have z2 : wr.cell? ⟨w.heap.size + 1, 2, none⟩ = some (.int .i64 (if 2 < m then (f o.c).getD 0 else 0)) := (cell_of_blk HR3.out 2).1
      replace HVL := Lib.hid (HVL.out (if 0 < m then (f o.a).getD 0 else 0) (if 1 < m then (f o.b).getD 0 else 0) (if 2 < m then (f o.c).getD 0 else 0))
      generalize (if 0 < m then (f o.a).getD 0 else 0) = v0 at *
      generalize (if 1 < m then (f o.b).getD 0 else 0) = v1 at *
      generalize (if 2 < m then (f o.c).getD 0 else 0) = v2 at *
      generalize valP o v0 v1 v2 = r at *
      unfold ValPost at HVL
      cases r with
      | none =>
        unfold optVal at HVL
        go_wp2_with fail
        refine (HVL.out _).mono ?_
        rintro e w5 ⟨rfl, hb5⟩
        go_wp2_with fail
        rw [← HPO.out]
        exact ⟨rfl, bch HB3.out hb5⟩
      | some v =>
        unfold optVal at HVL
        go_wp2_with fail
        refine (HVL.out _).mono ?_
        rintro e w5 ⟨rfl, hb5⟩
        go_wp2_with fail
        rw [← HPO.out]
        exact ⟨rfl, bch HB3.out hb5⟩
end Go.Proofs.Ytfadeipdepamlaa
