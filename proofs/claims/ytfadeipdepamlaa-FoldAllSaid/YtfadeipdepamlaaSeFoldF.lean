/- Parts of a proof. No condition but those that each theorem names. -/
import Derived.WalkKit
import Derived.OpenShut
import Derived.Below
import Derived.Lib.Hide
import Derived.Laws.OwnMore
import Derived.Deep.QuietTactic
import Derived.Deep.AppendLies
import Derived.ProofKit
import Derived.SizedLaws
import Derived.Test.YtfadeipdepamlaaProg
import Derived.Handy
import Derived.Deep.RegionHeld3
import Derived.BigQuiet
import Derived.Maps.AppendAt
import Derived.Maps.RangeWalk
import Derived.Maps.OwnSet
import Derived.StillTailTactics
import Derived.Laws.CopyOwn
import Derived.Lib.BufferWrite
import Derived.OrdersHeld
import Derived.RegionTactic
import Derived.Deep.DeepCutAuto
import Derived.Test.YtfadeipdepamlaaSeG0e0
import Derived.Test.YtfadeipdepamlaaSeG0e2
import Derived.Test.YtfadeipdepamlaaSeG0e4
import Derived.Test.YtfadeipdepamlaaSeIrC
import Derived.Test.YtfadeipdepamlaaSeG1e5
import Derived.Test.YtfadeipdepamlaaSeG1e6
import Derived.Test.YtfadeipdepamlaaSeG0e5
import Derived.Test.YtfadeipdepamlaaSeG0e11
import Derived.Test.YtfadeipdepamlaaSeG0e12
import Derived.Test.YtfadeipdepamlaaSeG1e14
import Derived.Test.YtfadeipdepamlaaSeFoldM
import Derived.Test.YtfadeipdepamlaaSeFoldA
namespace Go.Proofs.Ytfadeipdepamlaa
open Go.RowKit Go.Maps
set_option linter.unusedVariables false
theorem trm_cells_at {w : World} {g : Nat} {k a y n : Int} (h : w.heap[g]? = some (.cells #[.int .i64 k, .int .i64 a, .int .i64 y, .int .i64 n] 37 (0, 0))) :
    w.cell? ⟨g, 0, none⟩ = some (.int .i64 k) ∧ w.cell? ⟨g, 1, none⟩ = some (.int .i64 a) ∧ w.cell? ⟨g, 2, none⟩ = some (.int .i64 y) ∧ w.cell? ⟨g, 3, none⟩ = some (.int .i64 n) :=
  ⟨(cell_of_blk h 0).1, (cell_of_blk h 1).1, (cell_of_blk h 2).1, (cell_of_blk h 3).1⟩
def TrmPost (q : Trm) (w : World) (e : Ending) (w' : World) : Prop := e = .returned (trmVal q) ∧ Below w.heap.size w w'
set_option maxRecDepth 100000 in
set_option maxHeartbeats 4000000 in
theorem fold_term (F b n : Nat) (f : Int → Option Int) (t : Trm) (hft : t.fine) (w : World) (h : FoAt w F b n f) :
    Calls Try.prog 39 #[.pointer (some ⟨F, 0, none⟩), trmVal t] w (TrmPost (fdTrm f t) w) := by
  have HTA := Lib.hid (intR_lit hft.2.1)
  generalize hPO : TrmPost (fdTrm f t) w = PO
  have HPO := Lib.hid hPO
  unfold trmVal
  have e1 := alloc_size w (.cells #[.int .i64 t.kind, .int .i64 t.a, .int .i64 t.yes, .int .i64 t.no] 37) rfl
  have hX := alloc_old (alloc_last w _ rfl (.cells #[.int .i64 t.kind, .int .i64 t.a, .int .i64 t.yes, .int .i64 t.no] 37)) (.cells #[.int .i64 0, .int .i64 0, .int .i64 0, .int .i64 0] 37)
  have hR := alloc_last _ _ e1 (.cells #[.int .i64 0, .int .i64 0, .int .i64 0, .int .i64 0] 37)
  have hB := bal (bnew w (.cells #[.int .i64 t.kind, .int .i64 t.a, .int .i64 t.yes, .int .i64 t.no] 37)) (.cells #[.int .i64 0, .int .i64 0, .int .i64 0, .int .i64 0] 37)
  have HF := Lib.hid (h.below hB)
  clear h hPO hft
  go_enter Try.func39, Try.ntmps39
  go_upto_region 1 with (fail)
  generalize (w.alloc (.cells #[.int .i64 t.kind, .int .i64 t.a, .int .i64 t.yes, .int .i64 t.no] 37)).alloc (.cells #[.int .i64 0, .int .i64 0, .int .i64 0, .int .i64 0] 37) = w1 at *
  have HX := Lib.hid hX
  have HR := Lib.hid hR
  have HB := Lib.hid hB
  have LTX : w.heap.size < w1.heap.size := lt_of_blk hX
  clear hX hR hB e1
  obtain ⟨c0, c1, c2, c3⟩ := trm_cells_at HX.out
  cases hf : f t.a with
  | none =>
    refine wp_region_L (fun w' => Below w1.heap.size w1 w') 99 (by kernel_rfl) ?_
    have hS0 : Below w1.heap.size w1 w1.drew := Below.drew (Below.refl _ _)
    refine wpAnyL_take (i := 0) (some 9) (.pointer (some ⟨F, 0, none⟩)) rfl rfl (by kernel_rfl) (by kernel_rfl) (by kernel_rfl) (by kernel_rfl) (fun _ _ _ h => h) (by rfl) ?hvx1_0 hS0 ?restx1_0
    case hvx1_0 =>
      intro wz hSz
      go_simp
    try simp only [Act.put, List.setIfInBounds_toArray, List.set_cons_zero, List.set_cons_succ]
    refine wpAnyL_take (i := 1) (some 10) (.pointer (some ⟨F, 0, none⟩)) rfl rfl (by kernel_rfl) (by kernel_rfl) (by kernel_rfl) (by kernel_rfl) (fun _ _ _ h => h) (by rfl) ?hvx1_1 hS0 ?restx1_1
    case hvx1_1 =>
      intro wz hSz
      go_simp
    try simp only [Act.put, List.setIfInBounds_toArray, List.set_cons_zero, List.set_cons_succ]
    refine wpAnyL_take (i := 2) (some 11) (.pointer (some ⟨F, 0, none⟩)) rfl rfl (by kernel_rfl) (by kernel_rfl) (by kernel_rfl) (by kernel_rfl) (fun _ _ _ h => h) (by rfl) ?hvx1_2 hS0 ?restx1_2
    case hvx1_2 =>
      intro wz hSz
      go_simp
    try simp only [Act.put, List.setIfInBounds_toArray, List.set_cons_zero, List.set_cons_succ]
    refine wpAnyL_take (i := 3) (some 12) (.map (some b)) rfl rfl (by kernel_rfl) (by kernel_rfl) (by kernel_rfl) (by kernel_rfl) (fun _ _ _ h => h) (by rfl) ?hvx1_3 hS0 ?restx1_3
    case hvx1_3 =>
      intro wz hSz
      have z0 := (HF.out.below hSz).cell
      go_simp
    try simp only [Act.put, List.setIfInBounds_toArray, List.set_cons_zero, List.set_cons_succ]
    refine wpAnyL_take (i := 4) (some 13) (.pointer (some ⟨w.heap.size, 1, none⟩)) rfl rfl (by kernel_rfl) (by kernel_rfl) (by kernel_rfl) (by kernel_rfl) (fun _ _ _ h => h) (by rfl) ?hvx1_4 hS0 ?restx1_4
    case hvx1_4 =>
      intro wz hSz
      go_simp
    try simp only [Act.put, List.setIfInBounds_toArray, List.set_cons_zero, List.set_cons_succ]
    refine wpAnyL_take (i := 5) (some 14) (.int .i64 t.a) rfl rfl (by kernel_rfl) (by kernel_rfl) (by kernel_rfl) (by kernel_rfl) (fun _ _ _ h => h) (by rfl) ?hvx1_5 hS0 ?restx1_5
    case hvx1_5 =>
      intro wz hSz
      have z1 := (hSz.cell (p := ⟨w.heap.size, 1, none⟩) (LTX)).trans c1
      go_simp
    try simp only [Act.put, List.setIfInBounds_toArray, List.set_cons_zero, List.set_cons_succ]
    refine wpAnyL_take (i := 6) (some 15) (.tuple #[.int .i64 (0), .bool false]) rfl rfl (by kernel_rfl) (by kernel_rfl) (by kernel_rfl) (by kernel_rfl) (fun _ _ _ h => h) (by rfl) ?hvx1_6 hS0 ?restx1_6
    case hvx1_6 =>
      intro wz hSz
      have z2 := (HF.out.below hSz).look HTA.out
      rw [hf] at z2
      simp only [Option.getD_none, Option.isSome_none] at z2
      go_simp
    try simp only [Act.put, List.setIfInBounds_toArray, List.set_cons_zero, List.set_cons_succ]
    refine wpAnyL_take (i := 7) (some 8) (.tuple #[.int .i64 (0), .bool false]) rfl rfl (by kernel_rfl) (by kernel_rfl) (by kernel_rfl) (by kernel_rfl) (fun _ _ _ h => h) (by rfl) ?hvx1_7 hS0 ?restx1_7
    case hvx1_7 =>
      intro wz hSz
      go_simp
    try simp only [Act.put, List.setIfInBounds_toArray, List.set_cons_zero, List.set_cons_succ]
    refine wpAnyL_take (i := 8) (some 16) (.int .i64 (0)) rfl rfl (by kernel_rfl) (by kernel_rfl) (by kernel_rfl) (by kernel_rfl) (fun _ _ _ h => h) (by rfl) ?hvx1_8 hS0 ?restx1_8
    case hvx1_8 =>
      intro wz hSz
      go_simp
    try simp only [Act.put, List.setIfInBounds_toArray, List.set_cons_zero, List.set_cons_succ]
    refine wpAnyL_take (i := 9) (some 17) (.bool false) rfl rfl (by kernel_rfl) (by kernel_rfl) (by kernel_rfl) (by kernel_rfl) (fun _ _ _ h => h) (by rfl) ?hvx1_9 hS0 ?restx1_9
    case hvx1_9 =>
      intro wz hSz
      go_simp
    try simp only [Act.put, List.setIfInBounds_toArray, List.set_cons_zero, List.set_cons_succ]
    refine wpAnyL_take (i := 10) (some 5) (.int .i64 (0)) rfl rfl (by kernel_rfl) (by kernel_rfl) (by kernel_rfl) (by kernel_rfl) (fun _ _ _ h => h) (by rfl) ?hvx1_10 hS0 ?restx1_10
    case hvx1_10 =>
      intro wz hSz
      go_simp
    try simp only [Act.put, List.setIfInBounds_toArray, List.set_cons_zero, List.set_cons_succ]
    refine wpAnyL_take (i := 11) (some 6) (.bool false) rfl rfl (by kernel_rfl) (by kernel_rfl) (by kernel_rfl) (by kernel_rfl) (fun _ _ _ h => h) (by rfl) ?hvx1_11 hS0 ?restx1_11
    case hvx1_11 =>
      intro wz hSz
      go_simp
    try simp only [Act.put, List.setIfInBounds_toArray, List.set_cons_zero, List.set_cons_succ]
    refine wpAnyL_done (by kernel_rfl) ?_ _
    have hx' : w1.drew.heap[w.heap.size]? = _ := HX.out
    have hr' : w1.drew.heap[w.heap.size + 1]? = _ := HR.out
    have hb' := bdr HB.out
    clear c0 c1 c2 c3 LTX
    generalize w1.drew = w2 at *
    have HX := Lib.hid hx'
    have HR := Lib.hid hr'
    have HB := Lib.hid hb'
    clear hx' hr' hb' hS0
    obtain ⟨c0, c1, c2, c3⟩ := trm_cells_at HX.out
    have hoe : fdTrm f t = t := by
      unfold fdTrm
      split
      · rw [hf]
      · rfl
    by_cases hk : t.kind = 2
    · have q2 : (t.kind != 2) = false := by rw [bne_eq_false_iff_eq]; exact hk
      clear hk hf
      have HPP : Hid (∀ w', Below w.heap.size w w' → PO (.returned (.agg #[.int .i64 t.kind, .int .i64 t.a, .int .i64 t.yes, .int .i64 t.no])) w') := Lib.hid (fun w' hb => by rw [← HPO.out, hoe]; exact ⟨rfl, hb⟩)
      obtain ⟨r0, s0⟩ := cell_of_blk HR.out 0
      obtain ⟨r1, s1⟩ := cell_of_blk HR.out 1
      obtain ⟨r2, s2⟩ := cell_of_blk HR.out 2
      obtain ⟨r3, s3⟩ := cell_of_blk HR.out 3
      go_wp2_with fail
      clear c0 c1 c2 c3
      have hr7 := (blk_set (blk_set (blk_set (blk_set HR.out 0 (.int .i64 t.kind)) 1 (.int .i64 t.a)) 2 (.int .i64 t.yes)) 3 (.int .i64 t.no))
      have hB7 := ((((HB.out.setCell (p := ⟨w.heap.size + 1, 0, none⟩) (by show w.heap.size ≤ w.heap.size + 1; omega) (.int .i64 t.kind)).setCell (p := ⟨w.heap.size + 1, 1, none⟩) (by show w.heap.size ≤ w.heap.size + 1; omega) (.int .i64 t.a)).setCell (p := ⟨w.heap.size + 1, 2, none⟩) (by show w.heap.size ≤ w.heap.size + 1; omega) (.int .i64 t.yes)).setCell (p := ⟨w.heap.size + 1, 3, none⟩) (by show w.heap.size ≤ w.heap.size + 1; omega) (.int .i64 t.no))
      generalize ((((w2.setCell ⟨w.heap.size + 1, 0, none⟩ (.int .i64 t.kind)).setCell ⟨w.heap.size + 1, 1, none⟩ (.int .i64 t.a)).setCell ⟨w.heap.size + 1, 2, none⟩ (.int .i64 t.yes)).setCell ⟨w.heap.size + 1, 3, none⟩ (.int .i64 t.no)) = w7 at *
      have k0 : w7.cell? ⟨w.heap.size + 1, 0, none⟩ = some (.int .i64 t.kind) := (cell_of_blk hr7 0).1
      have k1 : w7.cell? ⟨w.heap.size + 1, 1, none⟩ = some (.int .i64 t.a) := (cell_of_blk hr7 1).1
      have k2 : w7.cell? ⟨w.heap.size + 1, 2, none⟩ = some (.int .i64 t.yes) := (cell_of_blk hr7 2).1
      have k3 : w7.cell? ⟨w.heap.size + 1, 3, none⟩ = some (.int .i64 t.no) := (cell_of_blk hr7 3).1
      clear hr7 r0 r1 r2 r3 s0 s1 s2 s3
      refine bodyPost_ret (v := .agg #[.int .i64 t.kind, .int .i64 t.a, .int .i64 t.yes, .int .i64 t.no]) (by simp [results, Try.results39, go_sem, k0, k1, k2, k3]; try rfl) rfl ?_
      exact HPP.out _ hB7
    · have q2 : (t.kind != 2) = true := by rw [bne_iff_ne]; exact hk
      clear hk hf
      have HPP : Hid (∀ w', Below w.heap.size w w' → PO (.returned (.agg #[.int .i64 t.kind, .int .i64 t.a, .int .i64 t.yes, .int .i64 t.no])) w') := Lib.hid (fun w' hb => by rw [← HPO.out, hoe]; exact ⟨rfl, hb⟩)
      obtain ⟨r0, s0⟩ := cell_of_blk HR.out 0
      obtain ⟨r1, s1⟩ := cell_of_blk HR.out 1
      obtain ⟨r2, s2⟩ := cell_of_blk HR.out 2
      obtain ⟨r3, s3⟩ := cell_of_blk HR.out 3
      go_wp2_with fail
      clear c0 c1 c2 c3
      have hr7 := (blk_set (blk_set (blk_set (blk_set HR.out 0 (.int .i64 t.kind)) 1 (.int .i64 t.a)) 2 (.int .i64 t.yes)) 3 (.int .i64 t.no))
      have hB7 := ((((HB.out.setCell (p := ⟨w.heap.size + 1, 0, none⟩) (by show w.heap.size ≤ w.heap.size + 1; omega) (.int .i64 t.kind)).setCell (p := ⟨w.heap.size + 1, 1, none⟩) (by show w.heap.size ≤ w.heap.size + 1; omega) (.int .i64 t.a)).setCell (p := ⟨w.heap.size + 1, 2, none⟩) (by show w.heap.size ≤ w.heap.size + 1; omega) (.int .i64 t.yes)).setCell (p := ⟨w.heap.size + 1, 3, none⟩) (by show w.heap.size ≤ w.heap.size + 1; omega) (.int .i64 t.no))
      generalize ((((w2.setCell ⟨w.heap.size + 1, 0, none⟩ (.int .i64 t.kind)).setCell ⟨w.heap.size + 1, 1, none⟩ (.int .i64 t.a)).setCell ⟨w.heap.size + 1, 2, none⟩ (.int .i64 t.yes)).setCell ⟨w.heap.size + 1, 3, none⟩ (.int .i64 t.no)) = w7 at *
      have k0 : w7.cell? ⟨w.heap.size + 1, 0, none⟩ = some (.int .i64 t.kind) := (cell_of_blk hr7 0).1
      have k1 : w7.cell? ⟨w.heap.size + 1, 1, none⟩ = some (.int .i64 t.a) := (cell_of_blk hr7 1).1
      have k2 : w7.cell? ⟨w.heap.size + 1, 2, none⟩ = some (.int .i64 t.yes) := (cell_of_blk hr7 2).1
      have k3 : w7.cell? ⟨w.heap.size + 1, 3, none⟩ = some (.int .i64 t.no) := (cell_of_blk hr7 3).1
      clear hr7 r0 r1 r2 r3 s0 s1 s2 s3
      refine bodyPost_ret (v := .agg #[.int .i64 t.kind, .int .i64 t.a, .int .i64 t.yes, .int .i64 t.no]) (by simp [results, Try.results39, go_sem, k0, k1, k2, k3]; try rfl) rfl ?_
      exact HPP.out _ hB7
  | some c =>
    refine wp_region_L (fun w' => Below w1.heap.size w1 w') 99 (by kernel_rfl) ?_
    have hS0 : Below w1.heap.size w1 w1.drew := Below.drew (Below.refl _ _)
    refine wpAnyL_take (i := 0) (some 9) (.pointer (some ⟨F, 0, none⟩)) rfl rfl (by kernel_rfl) (by kernel_rfl) (by kernel_rfl) (by kernel_rfl) (fun _ _ _ h => h) (by rfl) ?hvx2_0 hS0 ?restx2_0
    case hvx2_0 =>
      intro wz hSz
      go_simp
    try simp only [Act.put, List.setIfInBounds_toArray, List.set_cons_zero, List.set_cons_succ]
    refine wpAnyL_take (i := 1) (some 10) (.pointer (some ⟨F, 0, none⟩)) rfl rfl (by kernel_rfl) (by kernel_rfl) (by kernel_rfl) (by kernel_rfl) (fun _ _ _ h => h) (by rfl) ?hvx2_1 hS0 ?restx2_1
    case hvx2_1 =>
      intro wz hSz
      go_simp
    try simp only [Act.put, List.setIfInBounds_toArray, List.set_cons_zero, List.set_cons_succ]
    refine wpAnyL_take (i := 2) (some 11) (.pointer (some ⟨F, 0, none⟩)) rfl rfl (by kernel_rfl) (by kernel_rfl) (by kernel_rfl) (by kernel_rfl) (fun _ _ _ h => h) (by rfl) ?hvx2_2 hS0 ?restx2_2
    case hvx2_2 =>
      intro wz hSz
      go_simp
    try simp only [Act.put, List.setIfInBounds_toArray, List.set_cons_zero, List.set_cons_succ]
    refine wpAnyL_take (i := 3) (some 12) (.map (some b)) rfl rfl (by kernel_rfl) (by kernel_rfl) (by kernel_rfl) (by kernel_rfl) (fun _ _ _ h => h) (by rfl) ?hvx2_3 hS0 ?restx2_3
    case hvx2_3 =>
      intro wz hSz
      have z0 := (HF.out.below hSz).cell
      go_simp
    try simp only [Act.put, List.setIfInBounds_toArray, List.set_cons_zero, List.set_cons_succ]
    refine wpAnyL_take (i := 4) (some 13) (.pointer (some ⟨w.heap.size, 1, none⟩)) rfl rfl (by kernel_rfl) (by kernel_rfl) (by kernel_rfl) (by kernel_rfl) (fun _ _ _ h => h) (by rfl) ?hvx2_4 hS0 ?restx2_4
    case hvx2_4 =>
      intro wz hSz
      go_simp
    try simp only [Act.put, List.setIfInBounds_toArray, List.set_cons_zero, List.set_cons_succ]
    refine wpAnyL_take (i := 5) (some 14) (.int .i64 t.a) rfl rfl (by kernel_rfl) (by kernel_rfl) (by kernel_rfl) (by kernel_rfl) (fun _ _ _ h => h) (by rfl) ?hvx2_5 hS0 ?restx2_5
    case hvx2_5 =>
      intro wz hSz
      have z1 := (hSz.cell (p := ⟨w.heap.size, 1, none⟩) (LTX)).trans c1
      go_simp
    try simp only [Act.put, List.setIfInBounds_toArray, List.set_cons_zero, List.set_cons_succ]
    refine wpAnyL_take (i := 6) (some 15) (.tuple #[.int .i64 (c), .bool true]) rfl rfl (by kernel_rfl) (by kernel_rfl) (by kernel_rfl) (by kernel_rfl) (fun _ _ _ h => h) (by rfl) ?hvx2_6 hS0 ?restx2_6
    case hvx2_6 =>
      intro wz hSz
      have z2 := (HF.out.below hSz).look HTA.out
      rw [hf] at z2
      simp only [Option.getD_some, Option.isSome_some] at z2
      go_simp
    try simp only [Act.put, List.setIfInBounds_toArray, List.set_cons_zero, List.set_cons_succ]
    refine wpAnyL_take (i := 7) (some 8) (.tuple #[.int .i64 (c), .bool true]) rfl rfl (by kernel_rfl) (by kernel_rfl) (by kernel_rfl) (by kernel_rfl) (fun _ _ _ h => h) (by rfl) ?hvx2_7 hS0 ?restx2_7
    case hvx2_7 =>
      intro wz hSz
      go_simp
    try simp only [Act.put, List.setIfInBounds_toArray, List.set_cons_zero, List.set_cons_succ]
    refine wpAnyL_take (i := 8) (some 16) (.int .i64 (c)) rfl rfl (by kernel_rfl) (by kernel_rfl) (by kernel_rfl) (by kernel_rfl) (fun _ _ _ h => h) (by rfl) ?hvx2_8 hS0 ?restx2_8
    case hvx2_8 =>
      intro wz hSz
      go_simp
    try simp only [Act.put, List.setIfInBounds_toArray, List.set_cons_zero, List.set_cons_succ]
    refine wpAnyL_take (i := 9) (some 17) (.bool true) rfl rfl (by kernel_rfl) (by kernel_rfl) (by kernel_rfl) (by kernel_rfl) (fun _ _ _ h => h) (by rfl) ?hvx2_9 hS0 ?restx2_9
    case hvx2_9 =>
      intro wz hSz
      go_simp
    try simp only [Act.put, List.setIfInBounds_toArray, List.set_cons_zero, List.set_cons_succ]
    refine wpAnyL_take (i := 10) (some 5) (.int .i64 (c)) rfl rfl (by kernel_rfl) (by kernel_rfl) (by kernel_rfl) (by kernel_rfl) (fun _ _ _ h => h) (by rfl) ?hvx2_10 hS0 ?restx2_10
    case hvx2_10 =>
      intro wz hSz
      go_simp
    try simp only [Act.put, List.setIfInBounds_toArray, List.set_cons_zero, List.set_cons_succ]
    refine wpAnyL_take (i := 11) (some 6) (.bool true) rfl rfl (by kernel_rfl) (by kernel_rfl) (by kernel_rfl) (by kernel_rfl) (fun _ _ _ h => h) (by rfl) ?hvx2_11 hS0 ?restx2_11
    case hvx2_11 =>
      intro wz hSz
      go_simp
    try simp only [Act.put, List.setIfInBounds_toArray, List.set_cons_zero, List.set_cons_succ]
    refine wpAnyL_done (by kernel_rfl) ?_ _
    have hx' : w1.drew.heap[w.heap.size]? = _ := HX.out
    have hr' : w1.drew.heap[w.heap.size + 1]? = _ := HR.out
    have hb' := bdr HB.out
    clear c0 c1 c2 c3 LTX
    generalize w1.drew = w2 at *
    have HX := Lib.hid hx'
    have HR := Lib.hid hr'
    have HB := Lib.hid hb'
    clear hx' hr' hb' hS0
    obtain ⟨c0, c1, c2, c3⟩ := trm_cells_at HX.out
    by_cases hk : t.kind = 2
    · have q2 : (t.kind != 2) = false := by rw [bne_eq_false_iff_eq]; exact hk
      by_cases hc : c = 4294967295
      · subst hc
        have hoe : fdTrm f t = ⟨1, 0, t.yes, 0⟩ := by unfold fdTrm; rw [if_pos hk, hf]; rfl
        clear hk hf
        have HPP : Hid (∀ w', Below w.heap.size w w' → PO (.returned (.agg #[.int .i64 1, .int .i64 0, .int .i64 t.yes, .int .i64 0])) w') := Lib.hid (fun w' hb => by rw [← HPO.out, hoe]; exact ⟨rfl, hb⟩)
        clear hoe
        go_upto_region 5 with (fail)
        have hz := heap_alloc_new w2 (.cells #[.int .i64 1, .int .i64 0, .int .i64 (-1), .int .i64 0] 37)
        have hb := bnew w2 (.cells #[.int .i64 1, .int .i64 0, .int .i64 (-1), .int .i64 0] 37)
        have HSZ : Hid (w.heap.size + 1 < w2.heap.size) := Lib.hid (lt_of_blk HR.out)
        have HX3 := Lib.hid ((hb.block _ (lt_of_blk HX.out)).trans HX.out)
        have HR := Lib.hid ((hb.block _ (lt_of_blk HR.out)).trans HR.out)
        have HB := Lib.hid (bch HB.out hb)
        clear c0 c1 c2 c3
        generalize w2.alloc (.cells #[.int .i64 1, .int .i64 0, .int .i64 (-1), .int .i64 0] 37) = w3 at *
        obtain ⟨c0, c1, c2, c3⟩ := trm_cells_at HX3.out
        obtain ⟨y2, u2⟩ := cell_of_blk hz 2
        have HZ := Lib.hid hz
        clear hz hb
        go_upto_region 10 with (fail)
        have hsz := HSZ.out
        have hz4 := blk_set HZ.out 2 (.int .i64 t.yes)
        have HR := Lib.hid (blk_far HR.out ⟨w2.heap.size, 2, none⟩ (.int .i64 t.yes) (by show w2.heap.size ≠ w.heap.size + 1; omega))
        have HB := Lib.hid (HB.out.setCell (p := ⟨w2.heap.size, 2, none⟩) (by show w.heap.size ≤ w2.heap.size; omega) (.int .i64 t.yes))
        clear c0 c1 c2 c3 y2 u2 hsz
        generalize w3.setCell ⟨w2.heap.size, 2, none⟩ (.int .i64 t.yes) = w4 at *
        have y0 : w4.cell? ⟨w2.heap.size, 0, none⟩ = some (.int .i64 1) := (cell_of_blk hz4 0).1
        have y1 : w4.cell? ⟨w2.heap.size, 1, none⟩ = some (.int .i64 0) := (cell_of_blk hz4 1).1
        have y2 : w4.cell? ⟨w2.heap.size, 2, none⟩ = some (.int .i64 t.yes) := (cell_of_blk hz4 2).1
        have y3 : w4.cell? ⟨w2.heap.size, 3, none⟩ = some (.int .i64 0) := (cell_of_blk hz4 3).1
        clear hz4
        obtain ⟨r0, s0⟩ := cell_of_blk HR.out 0
        obtain ⟨r1, s1⟩ := cell_of_blk HR.out 1
        obtain ⟨r2, s2⟩ := cell_of_blk HR.out 2
        obtain ⟨r3, s3⟩ := cell_of_blk HR.out 3
        go_wp2_with fail
        clear y0 y1 y2 y3
        have hr7 := (blk_set (blk_set (blk_set (blk_set HR.out 0 (.int .i64 1)) 1 (.int .i64 0)) 2 (.int .i64 t.yes)) 3 (.int .i64 0))
        have hB7 := ((((HB.out.setCell (p := ⟨w.heap.size + 1, 0, none⟩) (by show w.heap.size ≤ w.heap.size + 1; omega) (.int .i64 1)).setCell (p := ⟨w.heap.size + 1, 1, none⟩) (by show w.heap.size ≤ w.heap.size + 1; omega) (.int .i64 0)).setCell (p := ⟨w.heap.size + 1, 2, none⟩) (by show w.heap.size ≤ w.heap.size + 1; omega) (.int .i64 t.yes)).setCell (p := ⟨w.heap.size + 1, 3, none⟩) (by show w.heap.size ≤ w.heap.size + 1; omega) (.int .i64 0))
        generalize ((((w4.setCell ⟨w.heap.size + 1, 0, none⟩ (.int .i64 1)).setCell ⟨w.heap.size + 1, 1, none⟩ (.int .i64 0)).setCell ⟨w.heap.size + 1, 2, none⟩ (.int .i64 t.yes)).setCell ⟨w.heap.size + 1, 3, none⟩ (.int .i64 0)) = w7 at *
        have k0 : w7.cell? ⟨w.heap.size + 1, 0, none⟩ = some (.int .i64 1) := (cell_of_blk hr7 0).1
        have k1 : w7.cell? ⟨w.heap.size + 1, 1, none⟩ = some (.int .i64 0) := (cell_of_blk hr7 1).1
        have k2 : w7.cell? ⟨w.heap.size + 1, 2, none⟩ = some (.int .i64 t.yes) := (cell_of_blk hr7 2).1
        have k3 : w7.cell? ⟨w.heap.size + 1, 3, none⟩ = some (.int .i64 0) := (cell_of_blk hr7 3).1
        clear hr7 r0 r1 r2 r3 s0 s1 s2 s3
        refine bodyPost_ret (v := .agg #[.int .i64 1, .int .i64 0, .int .i64 t.yes, .int .i64 0]) (by simp [results, Try.results39, go_sem, k0, k1, k2, k3]; try rfl) rfl ?_
        exact HPP.out _ hB7
      · have qc : (c == 4294967295) = false := by rw [beq_eq_false_iff_ne]; exact hc
        by_cases hc0 : c = 0
        · subst hc0
          have hoe : fdTrm f t = ⟨1, 0, t.no, 0⟩ := by unfold fdTrm; rw [if_pos hk, hf]; rfl
          clear hk hf hc
          have HPP : Hid (∀ w', Below w.heap.size w w' → PO (.returned (.agg #[.int .i64 1, .int .i64 0, .int .i64 t.no, .int .i64 0])) w') := Lib.hid (fun w' hb => by rw [← HPO.out, hoe]; exact ⟨rfl, hb⟩)
          clear hoe
          go_upto_region 5 with (fail)
          have hz := heap_alloc_new w2 (.cells #[.int .i64 1, .int .i64 0, .int .i64 (-1), .int .i64 0] 37)
          have hb := bnew w2 (.cells #[.int .i64 1, .int .i64 0, .int .i64 (-1), .int .i64 0] 37)
          have HSZ : Hid (w.heap.size + 1 < w2.heap.size) := Lib.hid (lt_of_blk HR.out)
          have HX3 := Lib.hid ((hb.block _ (lt_of_blk HX.out)).trans HX.out)
          have HR := Lib.hid ((hb.block _ (lt_of_blk HR.out)).trans HR.out)
          have HB := Lib.hid (bch HB.out hb)
          clear c0 c1 c2 c3
          generalize w2.alloc (.cells #[.int .i64 1, .int .i64 0, .int .i64 (-1), .int .i64 0] 37) = w3 at *
          obtain ⟨c0, c1, c2, c3⟩ := trm_cells_at HX3.out
          obtain ⟨y2, u2⟩ := cell_of_blk hz 2
          have HZ := Lib.hid hz
          clear hz hb
          go_upto_region 10 with (fail)
          have hsz := HSZ.out
          have hz4 := blk_set HZ.out 2 (.int .i64 t.no)
          have HR := Lib.hid (blk_far HR.out ⟨w2.heap.size, 2, none⟩ (.int .i64 t.no) (by show w2.heap.size ≠ w.heap.size + 1; omega))
          have HB := Lib.hid (HB.out.setCell (p := ⟨w2.heap.size, 2, none⟩) (by show w.heap.size ≤ w2.heap.size; omega) (.int .i64 t.no))
          clear c0 c1 c2 c3 y2 u2 hsz
          generalize w3.setCell ⟨w2.heap.size, 2, none⟩ (.int .i64 t.no) = w4 at *
          have y0 : w4.cell? ⟨w2.heap.size, 0, none⟩ = some (.int .i64 1) := (cell_of_blk hz4 0).1
          have y1 : w4.cell? ⟨w2.heap.size, 1, none⟩ = some (.int .i64 0) := (cell_of_blk hz4 1).1
          have y2 : w4.cell? ⟨w2.heap.size, 2, none⟩ = some (.int .i64 t.no) := (cell_of_blk hz4 2).1
          have y3 : w4.cell? ⟨w2.heap.size, 3, none⟩ = some (.int .i64 0) := (cell_of_blk hz4 3).1
          clear hz4
          obtain ⟨r0, s0⟩ := cell_of_blk HR.out 0
          obtain ⟨r1, s1⟩ := cell_of_blk HR.out 1
          obtain ⟨r2, s2⟩ := cell_of_blk HR.out 2
          obtain ⟨r3, s3⟩ := cell_of_blk HR.out 3
          go_wp2_with fail
          clear y0 y1 y2 y3
          have hr7 := (blk_set (blk_set (blk_set (blk_set HR.out 0 (.int .i64 1)) 1 (.int .i64 0)) 2 (.int .i64 t.no)) 3 (.int .i64 0))
          have hB7 := ((((HB.out.setCell (p := ⟨w.heap.size + 1, 0, none⟩) (by show w.heap.size ≤ w.heap.size + 1; omega) (.int .i64 1)).setCell (p := ⟨w.heap.size + 1, 1, none⟩) (by show w.heap.size ≤ w.heap.size + 1; omega) (.int .i64 0)).setCell (p := ⟨w.heap.size + 1, 2, none⟩) (by show w.heap.size ≤ w.heap.size + 1; omega) (.int .i64 t.no)).setCell (p := ⟨w.heap.size + 1, 3, none⟩) (by show w.heap.size ≤ w.heap.size + 1; omega) (.int .i64 0))
          generalize ((((w4.setCell ⟨w.heap.size + 1, 0, none⟩ (.int .i64 1)).setCell ⟨w.heap.size + 1, 1, none⟩ (.int .i64 0)).setCell ⟨w.heap.size + 1, 2, none⟩ (.int .i64 t.no)).setCell ⟨w.heap.size + 1, 3, none⟩ (.int .i64 0)) = w7 at *
          have k0 : w7.cell? ⟨w.heap.size + 1, 0, none⟩ = some (.int .i64 1) := (cell_of_blk hr7 0).1
          have k1 : w7.cell? ⟨w.heap.size + 1, 1, none⟩ = some (.int .i64 0) := (cell_of_blk hr7 1).1
          have k2 : w7.cell? ⟨w.heap.size + 1, 2, none⟩ = some (.int .i64 t.no) := (cell_of_blk hr7 2).1
          have k3 : w7.cell? ⟨w.heap.size + 1, 3, none⟩ = some (.int .i64 0) := (cell_of_blk hr7 3).1
          clear hr7 r0 r1 r2 r3 s0 s1 s2 s3
          refine bodyPost_ret (v := .agg #[.int .i64 1, .int .i64 0, .int .i64 t.no, .int .i64 0]) (by simp [results, Try.results39, go_sem, k0, k1, k2, k3]; try rfl) rfl ?_
          exact HPP.out _ hB7
        · have qc0 : (c == 0) = false := by rw [beq_eq_false_iff_ne]; exact hc0
          have hoe : fdTrm f t = ⟨1, 0, -1, 0⟩ := by unfold fdTrm; rw [if_pos hk, hf]; show (⟨1, 0, if c = 4294967295 then t.yes else if c = 0 then t.no else -1, 0⟩ : Trm) = _; rw [if_neg hc, if_neg hc0]
          clear hk hf hc hc0
          have HPP : Hid (∀ w', Below w.heap.size w w' → PO (.returned (.agg #[.int .i64 1, .int .i64 0, .int .i64 (-1), .int .i64 0])) w') := Lib.hid (fun w' hb => by rw [← HPO.out, hoe]; exact ⟨rfl, hb⟩)
          clear hoe
          go_upto_region 5 with (fail)
          have hz := heap_alloc_new w2 (.cells #[.int .i64 1, .int .i64 0, .int .i64 (-1), .int .i64 0] 37)
          have hb := bnew w2 (.cells #[.int .i64 1, .int .i64 0, .int .i64 (-1), .int .i64 0] 37)
          have HSZ : Hid (w.heap.size + 1 < w2.heap.size) := Lib.hid (lt_of_blk HR.out)
          have HX3 := Lib.hid ((hb.block _ (lt_of_blk HX.out)).trans HX.out)
          have HR := Lib.hid ((hb.block _ (lt_of_blk HR.out)).trans HR.out)
          have HB := Lib.hid (bch HB.out hb)
          clear c0 c1 c2 c3
          generalize w2.alloc (.cells #[.int .i64 1, .int .i64 0, .int .i64 (-1), .int .i64 0] 37) = w3 at *
          obtain ⟨c0, c1, c2, c3⟩ := trm_cells_at HX3.out
          have y0 : w3.cell? ⟨w2.heap.size, 0, none⟩ = some (.int .i64 1) := (cell_of_blk hz 0).1
          have y1 : w3.cell? ⟨w2.heap.size, 1, none⟩ = some (.int .i64 0) := (cell_of_blk hz 1).1
          have y2 : w3.cell? ⟨w2.heap.size, 2, none⟩ = some (.int .i64 (-1)) := (cell_of_blk hz 2).1
          have y3 : w3.cell? ⟨w2.heap.size, 3, none⟩ = some (.int .i64 0) := (cell_of_blk hz 3).1
          clear hz hb
          obtain ⟨r0, s0⟩ := cell_of_blk HR.out 0
          obtain ⟨r1, s1⟩ := cell_of_blk HR.out 1
          obtain ⟨r2, s2⟩ := cell_of_blk HR.out 2
          obtain ⟨r3, s3⟩ := cell_of_blk HR.out 3
          go_wp2_with fail
          clear y0 y1 y2 y3 c0 c1 c2 c3
          have hr7 := (blk_set (blk_set (blk_set (blk_set HR.out 0 (.int .i64 1)) 1 (.int .i64 0)) 2 (.int .i64 (-1))) 3 (.int .i64 0))
          have hB7 := ((((HB.out.setCell (p := ⟨w.heap.size + 1, 0, none⟩) (by show w.heap.size ≤ w.heap.size + 1; omega) (.int .i64 1)).setCell (p := ⟨w.heap.size + 1, 1, none⟩) (by show w.heap.size ≤ w.heap.size + 1; omega) (.int .i64 0)).setCell (p := ⟨w.heap.size + 1, 2, none⟩) (by show w.heap.size ≤ w.heap.size + 1; omega) (.int .i64 (-1))).setCell (p := ⟨w.heap.size + 1, 3, none⟩) (by show w.heap.size ≤ w.heap.size + 1; omega) (.int .i64 0))
          generalize ((((w3.setCell ⟨w.heap.size + 1, 0, none⟩ (.int .i64 1)).setCell ⟨w.heap.size + 1, 1, none⟩ (.int .i64 0)).setCell ⟨w.heap.size + 1, 2, none⟩ (.int .i64 (-1))).setCell ⟨w.heap.size + 1, 3, none⟩ (.int .i64 0)) = w7 at *
          have k0 : w7.cell? ⟨w.heap.size + 1, 0, none⟩ = some (.int .i64 1) := (cell_of_blk hr7 0).1
          have k1 : w7.cell? ⟨w.heap.size + 1, 1, none⟩ = some (.int .i64 0) := (cell_of_blk hr7 1).1
          have k2 : w7.cell? ⟨w.heap.size + 1, 2, none⟩ = some (.int .i64 (-1)) := (cell_of_blk hr7 2).1
          have k3 : w7.cell? ⟨w.heap.size + 1, 3, none⟩ = some (.int .i64 0) := (cell_of_blk hr7 3).1
          clear hr7 r0 r1 r2 r3 s0 s1 s2 s3
          refine bodyPost_ret (v := .agg #[.int .i64 1, .int .i64 0, .int .i64 (-1), .int .i64 0]) (by simp [results, Try.results39, go_sem, k0, k1, k2, k3]; try rfl) rfl ?_
          exact HPP.out _ hB7
    · have q2 : (t.kind != 2) = true := by rw [bne_iff_ne]; exact hk
      have hoe : fdTrm f t = t := by unfold fdTrm; rw [if_neg hk]
      clear hk hf
      have HPP : Hid (∀ w', Below w.heap.size w w' → PO (.returned (.agg #[.int .i64 t.kind, .int .i64 t.a, .int .i64 t.yes, .int .i64 t.no])) w') := Lib.hid (fun w' hb => by rw [← HPO.out, hoe]; exact ⟨rfl, hb⟩)
      obtain ⟨r0, s0⟩ := cell_of_blk HR.out 0
      obtain ⟨r1, s1⟩ := cell_of_blk HR.out 1
      obtain ⟨r2, s2⟩ := cell_of_blk HR.out 2
      obtain ⟨r3, s3⟩ := cell_of_blk HR.out 3
      go_wp2_with fail
      clear c0 c1 c2 c3
      have hr7 := (blk_set (blk_set (blk_set (blk_set HR.out 0 (.int .i64 t.kind)) 1 (.int .i64 t.a)) 2 (.int .i64 t.yes)) 3 (.int .i64 t.no))
      have hB7 := ((((HB.out.setCell (p := ⟨w.heap.size + 1, 0, none⟩) (by show w.heap.size ≤ w.heap.size + 1; omega) (.int .i64 t.kind)).setCell (p := ⟨w.heap.size + 1, 1, none⟩) (by show w.heap.size ≤ w.heap.size + 1; omega) (.int .i64 t.a)).setCell (p := ⟨w.heap.size + 1, 2, none⟩) (by show w.heap.size ≤ w.heap.size + 1; omega) (.int .i64 t.yes)).setCell (p := ⟨w.heap.size + 1, 3, none⟩) (by show w.heap.size ≤ w.heap.size + 1; omega) (.int .i64 t.no))
      generalize ((((w2.setCell ⟨w.heap.size + 1, 0, none⟩ (.int .i64 t.kind)).setCell ⟨w.heap.size + 1, 1, none⟩ (.int .i64 t.a)).setCell ⟨w.heap.size + 1, 2, none⟩ (.int .i64 t.yes)).setCell ⟨w.heap.size + 1, 3, none⟩ (.int .i64 t.no)) = w7 at *
      have k0 : w7.cell? ⟨w.heap.size + 1, 0, none⟩ = some (.int .i64 t.kind) := (cell_of_blk hr7 0).1
      have k1 : w7.cell? ⟨w.heap.size + 1, 1, none⟩ = some (.int .i64 t.a) := (cell_of_blk hr7 1).1
      have k2 : w7.cell? ⟨w.heap.size + 1, 2, none⟩ = some (.int .i64 t.yes) := (cell_of_blk hr7 2).1
      have k3 : w7.cell? ⟨w.heap.size + 1, 3, none⟩ = some (.int .i64 t.no) := (cell_of_blk hr7 3).1
      clear hr7 r0 r1 r2 r3 s0 s1 s2 s3
      refine bodyPost_ret (v := .agg #[.int .i64 t.kind, .int .i64 t.a, .int .i64 t.yes, .int .i64 t.no]) (by simp [results, Try.results39, go_sem, k0, k1, k2, k3]; try rfl) rfl ?_
      exact HPP.out _ hB7
end Go.Proofs.Ytfadeipdepamlaa
