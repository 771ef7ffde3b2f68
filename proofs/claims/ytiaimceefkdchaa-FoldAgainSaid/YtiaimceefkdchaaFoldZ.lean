/- Several texts in one: XFoldF, XFoldG, XFoldH, XLive19. No condition but those that each theorem names. -/
import Derived.Test.YtiaimceefkdchaaFoldA
import Derived.Test.YtiaimceefkdchaaHeld
import Derived.Test.YtiaimceefkdchaaFoldE
import Derived.Test.YtiaimceefkdchaaPass
import Derived.Test.YtiaimceefkdchaaLive
/- Contract of package fold's term. No condition but those that the theorem names. -/
namespace Go.Proofs.Ytiaimceefkdchaa
open Go.RowKit Go.Maps
set_option linter.unusedVariables false
theorem trm_cells_at {w : World} {g : Nat} {k a y n : Int} (h : w.heap[g]? = some (.cells #[.int .i64 k, .int .i64 a, .int .i64 y, .int .i64 n] 53 (0, 0))) :
    w.cell? ⟨g, 0, none⟩ = some (.int .i64 k) ∧ w.cell? ⟨g, 1, none⟩ = some (.int .i64 a) ∧ w.cell? ⟨g, 2, none⟩ = some (.int .i64 y) ∧ w.cell? ⟨g, 3, none⟩ = some (.int .i64 n) :=
  ⟨(cell_of_blk h 0).1, (cell_of_blk h 1).1, (cell_of_blk h 2).1, (cell_of_blk h 3).1⟩
def TrmPost (q : Trm) (w : World) (e : Ending) (w' : World) : Prop := e = .returned (trmVal q) ∧ Below w.heap.size w w'
set_option maxRecDepth 100000 in
set_option maxHeartbeats 4000000 in
theorem fold_term (F b n : Nat) (f : Int → Option Int) (t : Trm) (hft : t.fine) (w : World) (h : FoAt w F b n f) :
    Calls Try.prog 105 #[.pointer (some ⟨F, 0, none⟩), trmVal t] w (TrmPost (fdTrm f t) w) := by
  have HTA := Lib.hid (intR_lit hft.2.1)
  generalize hPO : TrmPost (fdTrm f t) w = PO
  have HPO := Lib.hid hPO
  unfold trmVal
  have e1 := alloc_size w (.cells #[.int .i64 t.kind, .int .i64 t.a, .int .i64 t.yes, .int .i64 t.no] 53) rfl
  have hX := alloc_old (alloc_last w _ rfl (.cells #[.int .i64 t.kind, .int .i64 t.a, .int .i64 t.yes, .int .i64 t.no] 53)) (.cells #[.int .i64 0, .int .i64 0, .int .i64 0, .int .i64 0] 53)
  have hR := alloc_last _ _ e1 (.cells #[.int .i64 0, .int .i64 0, .int .i64 0, .int .i64 0] 53)
  have hB := bal (bnew w (.cells #[.int .i64 t.kind, .int .i64 t.a, .int .i64 t.yes, .int .i64 t.no] 53)) (.cells #[.int .i64 0, .int .i64 0, .int .i64 0, .int .i64 0] 53)
  have HF := Lib.hid (h.below hB)
  clear h hPO hft
  go_enter Try.func105, Try.ntmps105
  go_upto_region 1 with (fail)
  generalize (w.alloc (.cells #[.int .i64 t.kind, .int .i64 t.a, .int .i64 t.yes, .int .i64 t.no] 53)).alloc (.cells #[.int .i64 0, .int .i64 0, .int .i64 0, .int .i64 0] 53) = w1 at *
  have HX := Lib.hid hX
  have HR := Lib.hid hR
  have HB := Lib.hid hB
  have LTX : w.heap.size < w1.heap.size := lt_of_blk hX
  clear hX hR hB e1
  obtain ⟨c0, c1, c2, c3⟩ := trm_cells_at HX.out
  cases hf : f t.a with
  | none =>
    refine wp_region_L (fun w' => Below w1.heap.size w1 w') 99 (by kernel_rfl) ?_
    have hS0 : Below w1.heap.size w1 w1.drew := Below.drew (Below.refl _ _)
    refine wpAnyL_take (i := 0) (some 9) (.pointer (some ⟨F, 0, none⟩)) rfl rfl (by kernel_rfl) (by kernel_rfl) (by kernel_rfl) (by kernel_rfl) (fun _ _ _ h => h) (by rfl) ?hvx1_0 hS0 ?restx1_0
    case hvx1_0 =>
      intro wz hSz
      go_simp
    try simp only [Act.put, List.setIfInBounds_toArray, List.set_cons_zero, List.set_cons_succ]
    refine wpAnyL_take (i := 1) (some 10) (.pointer (some ⟨F, 0, none⟩)) rfl rfl (by kernel_rfl) (by kernel_rfl) (by kernel_rfl) (by kernel_rfl) (fun _ _ _ h => h) (by rfl) ?hvx1_1 hS0 ?restx1_1
    case hvx1_1 =>
      intro wz hSz
      go_simp
    try simp only [Act.put, List.setIfInBounds_toArray, List.set_cons_zero, List.set_cons_succ]
    refine wpAnyL_take (i := 2) (some 11) (.pointer (some ⟨F, 0, none⟩)) rfl rfl (by kernel_rfl) (by kernel_rfl) (by kernel_rfl) (by kernel_rfl) (fun _ _ _ h => h) (by rfl) ?hvx1_2 hS0 ?restx1_2
    case hvx1_2 =>
      intro wz hSz
      go_simp
    try simp only [Act.put, List.setIfInBounds_toArray, List.set_cons_zero, List.set_cons_succ]
    refine wpAnyL_take (i := 3) (some 12) (.map (some b)) rfl rfl (by kernel_rfl) (by kernel_rfl) (by kernel_rfl) (by kernel_rfl) (fun _ _ _ h => h) (by rfl) ?hvx1_3 hS0 ?restx1_3
    case hvx1_3 =>
      intro wz hSz
      have z0 := (HF.out.below hSz).cell
      go_simp
    try simp only [Act.put, List.setIfInBounds_toArray, List.set_cons_zero, List.set_cons_succ]
    refine wpAnyL_take (i := 4) (some 13) (.pointer (some ⟨w.heap.size, 1, none⟩)) rfl rfl (by kernel_rfl) (by kernel_rfl) (by kernel_rfl) (by kernel_rfl) (fun _ _ _ h => h) (by rfl) ?hvx1_4 hS0 ?restx1_4
    case hvx1_4 =>
      intro wz hSz
      go_simp
    try simp only [Act.put, List.setIfInBounds_toArray, List.set_cons_zero, List.set_cons_succ]
    refine wpAnyL_take (i := 5) (some 14) (.int .i64 t.a) rfl rfl (by kernel_rfl) (by kernel_rfl) (by kernel_rfl) (by kernel_rfl) (fun _ _ _ h => h) (by rfl) ?hvx1_5 hS0 ?restx1_5
    case hvx1_5 =>
      intro wz hSz
      have z1 := (hSz.cell (p := ⟨w.heap.size, 1, none⟩) (LTX)).trans c1
      go_simp
    try simp only [Act.put, List.setIfInBounds_toArray, List.set_cons_zero, List.set_cons_succ]
    refine wpAnyL_take (i := 6) (some 15) (.tuple #[.int .i64 (0), .bool false]) rfl rfl (by kernel_rfl) (by kernel_rfl) (by kernel_rfl) (by kernel_rfl) (fun _ _ _ h => h) (by rfl) ?hvx1_6 hS0 ?restx1_6
    case hvx1_6 =>
      intro wz hSz
      have z2 := (HF.out.below hSz).look HTA.out
      rw [hf] at z2
      simp only [Option.getD_none, Option.isSome_none] at z2
      go_simp
    try simp only [Act.put, List.setIfInBounds_toArray, List.set_cons_zero, List.set_cons_succ]
    refine wpAnyL_take (i := 7) (some 8) (.tuple #[.int .i64 (0), .bool false]) rfl rfl (by kernel_rfl) (by kernel_rfl) (by kernel_rfl) (by kernel_rfl) (fun _ _ _ h => h) (by rfl) ?hvx1_7 hS0 ?restx1_7
    case hvx1_7 =>
      intro wz hSz
      go_simp
    try simp only [Act.put, List.setIfInBounds_toArray, List.set_cons_zero, List.set_cons_succ]
    refine wpAnyL_take (i := 8) (some 16) (.int .i64 (0)) rfl rfl (by kernel_rfl) (by kernel_rfl) (by kernel_rfl) (by kernel_rfl) (fun _ _ _ h => h) (by rfl) ?hvx1_8 hS0 ?restx1_8
    case hvx1_8 =>
      intro wz hSz
      go_simp
    try simp only [Act.put, List.setIfInBounds_toArray, List.set_cons_zero, List.set_cons_succ]
    refine wpAnyL_take (i := 9) (some 17) (.bool false) rfl rfl (by kernel_rfl) (by kernel_rfl) (by kernel_rfl) (by kernel_rfl) (fun _ _ _ h => h) (by rfl) ?hvx1_9 hS0 ?restx1_9
    case hvx1_9 =>
      intro wz hSz
      go_simp
    try simp only [Act.put, List.setIfInBounds_toArray, List.set_cons_zero, List.set_cons_succ]
    refine wpAnyL_take (i := 10) (some 5) (.int .i64 (0)) rfl rfl (by kernel_rfl) (by kernel_rfl) (by kernel_rfl) (by kernel_rfl) (fun _ _ _ h => h) (by rfl) ?hvx1_10 hS0 ?restx1_10
    case hvx1_10 =>
      intro wz hSz
      go_simp
    try simp only [Act.put, List.setIfInBounds_toArray, List.set_cons_zero, List.set_cons_succ]
    refine wpAnyL_take (i := 11) (some 6) (.bool false) rfl rfl (by kernel_rfl) (by kernel_rfl) (by kernel_rfl) (by kernel_rfl) (fun _ _ _ h => h) (by rfl) ?hvx1_11 hS0 ?restx1_11
    case hvx1_11 =>
      intro wz hSz
      go_simp
    try simp only [Act.put, List.setIfInBounds_toArray, List.set_cons_zero, List.set_cons_succ]
    refine wpAnyL_done (by kernel_rfl) ?_ _
    have hx' : w1.drew.heap[w.heap.size]? = _ := HX.out
    have hr' : w1.drew.heap[w.heap.size + 1]? = _ := HR.out
    have hb' := bdr HB.out
    clear c0 c1 c2 c3 LTX
    generalize w1.drew = w2 at *
    have HX := Lib.hid hx'
    have HR := Lib.hid hr'
    have HB := Lib.hid hb'
    clear hx' hr' hb' hS0
    obtain ⟨c0, c1, c2, c3⟩ := trm_cells_at HX.out
    have hoe : fdTrm f t = t := by
      unfold fdTrm
      split
      · rw [hf]
      · rfl
    by_cases hk : t.kind = 2
    · have q2 : (t.kind != 2) = false := by rw [bne_eq_false_iff_eq]; exact hk
      clear hk hf
      have HPP : Hid (∀ w', Below w.heap.size w w' → PO (.returned (.agg #[.int .i64 t.kind, .int .i64 t.a, .int .i64 t.yes, .int .i64 t.no])) w') := Lib.hid (fun w' hb => by rw [← HPO.out, hoe]; exact ⟨rfl, hb⟩)
      obtain ⟨r0, s0⟩ := cell_of_blk HR.out 0
      obtain ⟨r1, s1⟩ := cell_of_blk HR.out 1
      obtain ⟨r2, s2⟩ := cell_of_blk HR.out 2
      obtain ⟨r3, s3⟩ := cell_of_blk HR.out 3
      go_wp2_with fail
      clear c0 c1 c2 c3
      have hr7 := (blk_set (blk_set (blk_set (blk_set HR.out 0 (.int .i64 t.kind)) 1 (.int .i64 t.a)) 2 (.int .i64 t.yes)) 3 (.int .i64 t.no))
      have hB7 := ((((HB.out.setCell (p := ⟨w.heap.size + 1, 0, none⟩) (by show w.heap.size ≤ w.heap.size + 1; omega) (.int .i64 t.kind)).setCell (p := ⟨w.heap.size + 1, 1, none⟩) (by show w.heap.size ≤ w.heap.size + 1; omega) (.int .i64 t.a)).setCell (p := ⟨w.heap.size + 1, 2, none⟩) (by show w.heap.size ≤ w.heap.size + 1; omega) (.int .i64 t.yes)).setCell (p := ⟨w.heap.size + 1, 3, none⟩) (by show w.heap.size ≤ w.heap.size + 1; omega) (.int .i64 t.no))
      generalize ((((w2.setCell ⟨w.heap.size + 1, 0, none⟩ (.int .i64 t.kind)).setCell ⟨w.heap.size + 1, 1, none⟩ (.int .i64 t.a)).setCell ⟨w.heap.size + 1, 2, none⟩ (.int .i64 t.yes)).setCell ⟨w.heap.size + 1, 3, none⟩ (.int .i64 t.no)) = w7 at *
      have k0 : w7.cell? ⟨w.heap.size + 1, 0, none⟩ = some (.int .i64 t.kind) := (cell_of_blk hr7 0).1
      have k1 : w7.cell? ⟨w.heap.size + 1, 1, none⟩ = some (.int .i64 t.a) := (cell_of_blk hr7 1).1
      have k2 : w7.cell? ⟨w.heap.size + 1, 2, none⟩ = some (.int .i64 t.yes) := (cell_of_blk hr7 2).1
      have k3 : w7.cell? ⟨w.heap.size + 1, 3, none⟩ = some (.int .i64 t.no) := (cell_of_blk hr7 3).1
      clear hr7 r0 r1 r2 r3 s0 s1 s2 s3
      refine bodyPost_ret (v := .agg #[.int .i64 t.kind, .int .i64 t.a, .int .i64 t.yes, .int .i64 t.no]) (by simp [results, Try.results105, go_sem, k0, k1, k2, k3]; try rfl) rfl ?_
      exact HPP.out _ hB7
    · have q2 : (t.kind != 2) = true := by rw [bne_iff_ne]; exact hk
      clear hk hf
      have HPP : Hid (∀ w', Below w.heap.size w w' → PO (.returned (.agg #[.int .i64 t.kind, .int .i64 t.a, .int .i64 t.yes, .int .i64 t.no])) w') := Lib.hid (fun w' hb => by rw [← HPO.out, hoe]; exact ⟨rfl, hb⟩)
      obtain ⟨r0, s0⟩ := cell_of_blk HR.out 0
      obtain ⟨r1, s1⟩ := cell_of_blk HR.out 1
      obtain ⟨r2, s2⟩ := cell_of_blk HR.out 2
      obtain ⟨r3, s3⟩ := cell_of_blk HR.out 3
      go_wp2_with fail
      clear c0 c1 c2 c3
      have hr7 := (blk_set (blk_set (blk_set (blk_set HR.out 0 (.int .i64 t.kind)) 1 (.int .i64 t.a)) 2 (.int .i64 t.yes)) 3 (.int .i64 t.no))
      have hB7 := ((((HB.out.setCell (p := ⟨w.heap.size + 1, 0, none⟩) (by show w.heap.size ≤ w.heap.size + 1; omega) (.int .i64 t.kind)).setCell (p := ⟨w.heap.size + 1, 1, none⟩) (by show w.heap.size ≤ w.heap.size + 1; omega) (.int .i64 t.a)).setCell (p := ⟨w.heap.size + 1, 2, none⟩) (by show w.heap.size ≤ w.heap.size + 1; omega) (.int .i64 t.yes)).setCell (p := ⟨w.heap.size + 1, 3, none⟩) (by show w.heap.size ≤ w.heap.size + 1; omega) (.int .i64 t.no))
      generalize ((((w2.setCell ⟨w.heap.size + 1, 0, none⟩ (.int .i64 t.kind)).setCell ⟨w.heap.size + 1, 1, none⟩ (.int .i64 t.a)).setCell ⟨w.heap.size + 1, 2, none⟩ (.int .i64 t.yes)).setCell ⟨w.heap.size + 1, 3, none⟩ (.int .i64 t.no)) = w7 at *
      have k0 : w7.cell? ⟨w.heap.size + 1, 0, none⟩ = some (.int .i64 t.kind) := (cell_of_blk hr7 0).1
      have k1 : w7.cell? ⟨w.heap.size + 1, 1, none⟩ = some (.int .i64 t.a) := (cell_of_blk hr7 1).1
      have k2 : w7.cell? ⟨w.heap.size + 1, 2, none⟩ = some (.int .i64 t.yes) := (cell_of_blk hr7 2).1
      have k3 : w7.cell? ⟨w.heap.size + 1, 3, none⟩ = some (.int .i64 t.no) := (cell_of_blk hr7 3).1
      clear hr7 r0 r1 r2 r3 s0 s1 s2 s3
      refine bodyPost_ret (v := .agg #[.int .i64 t.kind, .int .i64 t.a, .int .i64 t.yes, .int .i64 t.no]) (by simp [results, Try.results105, go_sem, k0, k1, k2, k3]; try rfl) rfl ?_
      exact HPP.out _ hB7
  | some c =>
    refine wp_region_L (fun w' => Below w1.heap.size w1 w') 99 (by kernel_rfl) ?_
    have hS0 : Below w1.heap.size w1 w1.drew := Below.drew (Below.refl _ _)
    refine wpAnyL_take (i := 0) (some 9) (.pointer (some ⟨F, 0, none⟩)) rfl rfl (by kernel_rfl) (by kernel_rfl) (by kernel_rfl) (by kernel_rfl) (fun _ _ _ h => h) (by rfl) ?hvx2_0 hS0 ?restx2_0
    case hvx2_0 =>
      intro wz hSz
      go_simp
    try simp only [Act.put, List.setIfInBounds_toArray, List.set_cons_zero, List.set_cons_succ]
    refine wpAnyL_take (i := 1) (some 10) (.pointer (some ⟨F, 0, none⟩)) rfl rfl (by kernel_rfl) (by kernel_rfl) (by kernel_rfl) (by kernel_rfl) (fun _ _ _ h => h) (by rfl) ?hvx2_1 hS0 ?restx2_1
    case hvx2_1 =>
      intro wz hSz
      go_simp
    try simp only [Act.put, List.setIfInBounds_toArray, List.set_cons_zero, List.set_cons_succ]
    refine wpAnyL_take (i := 2) (some 11) (.pointer (some ⟨F, 0, none⟩)) rfl rfl (by kernel_rfl) (by kernel_rfl) (by kernel_rfl) (by kernel_rfl) (fun _ _ _ h => h) (by rfl) ?hvx2_2 hS0 ?restx2_2
    case hvx2_2 =>
      intro wz hSz
      go_simp
    try simp only [Act.put, List.setIfInBounds_toArray, List.set_cons_zero, List.set_cons_succ]
    refine wpAnyL_take (i := 3) (some 12) (.map (some b)) rfl rfl (by kernel_rfl) (by kernel_rfl) (by kernel_rfl) (by kernel_rfl) (fun _ _ _ h => h) (by rfl) ?hvx2_3 hS0 ?restx2_3
    case hvx2_3 =>
      intro wz hSz
      have z0 := (HF.out.below hSz).cell
      go_simp
    try simp only [Act.put, List.setIfInBounds_toArray, List.set_cons_zero, List.set_cons_succ]
    refine wpAnyL_take (i := 4) (some 13) (.pointer (some ⟨w.heap.size, 1, none⟩)) rfl rfl (by kernel_rfl) (by kernel_rfl) (by kernel_rfl) (by kernel_rfl) (fun _ _ _ h => h) (by rfl) ?hvx2_4 hS0 ?restx2_4
    case hvx2_4 =>
      intro wz hSz
      go_simp
    try simp only [Act.put, List.setIfInBounds_toArray, List.set_cons_zero, List.set_cons_succ]
    refine wpAnyL_take (i := 5) (some 14) (.int .i64 t.a) rfl rfl (by kernel_rfl) (by kernel_rfl) (by kernel_rfl) (by kernel_rfl) (fun _ _ _ h => h) (by rfl) ?hvx2_5 hS0 ?restx2_5
    case hvx2_5 =>
      intro wz hSz
      have z1 := (hSz.cell (p := ⟨w.heap.size, 1, none⟩) (LTX)).trans c1
      go_simp
    try simp only [Act.put, List.setIfInBounds_toArray, List.set_cons_zero, List.set_cons_succ]
    refine wpAnyL_take (i := 6) (some 15) (.tuple #[.int .i64 (c), .bool true]) rfl rfl (by kernel_rfl) (by kernel_rfl) (by kernel_rfl) (by kernel_rfl) (fun _ _ _ h => h) (by rfl) ?hvx2_6 hS0 ?restx2_6
    case hvx2_6 =>
      intro wz hSz
      have z2 := (HF.out.below hSz).look HTA.out
      rw [hf] at z2
      simp only [Option.getD_some, Option.isSome_some] at z2
      go_simp
    try simp only [Act.put, List.setIfInBounds_toArray, List.set_cons_zero, List.set_cons_succ]
    refine wpAnyL_take (i := 7) (some 8) (.tuple #[.int .i64 (c), .bool true]) rfl rfl (by kernel_rfl) (by kernel_rfl) (by kernel_rfl) (by kernel_rfl) (fun _ _ _ h => h) (by rfl) ?hvx2_7 hS0 ?restx2_7
    case hvx2_7 =>
      intro wz hSz
      go_simp
    try simp only [Act.put, List.setIfInBounds_toArray, List.set_cons_zero, List.set_cons_succ]
    refine wpAnyL_take (i := 8) (some 16) (.int .i64 (c)) rfl rfl (by kernel_rfl) (by kernel_rfl) (by kernel_rfl) (by kernel_rfl) (fun _ _ _ h => h) (by rfl) ?hvx2_8 hS0 ?restx2_8
    case hvx2_8 =>
      intro wz hSz
      go_simp
    try simp only [Act.put, List.setIfInBounds_toArray, List.set_cons_zero, List.set_cons_succ]
    refine wpAnyL_take (i := 9) (some 17) (.bool true) rfl rfl (by kernel_rfl) (by kernel_rfl) (by kernel_rfl) (by kernel_rfl) (fun _ _ _ h => h) (by rfl) ?hvx2_9 hS0 ?restx2_9
    case hvx2_9 =>
      intro wz hSz
      go_simp
    try simp only [Act.put, List.setIfInBounds_toArray, List.set_cons_zero, List.set_cons_succ]
    refine wpAnyL_take (i := 10) (some 5) (.int .i64 (c)) rfl rfl (by kernel_rfl) (by kernel_rfl) (by kernel_rfl) (by kernel_rfl) (fun _ _ _ h => h) (by rfl) ?hvx2_10 hS0 ?restx2_10
    case hvx2_10 =>
      intro wz hSz
      go_simp
    try simp only [Act.put, List.setIfInBounds_toArray, List.set_cons_zero, List.set_cons_succ]
    refine wpAnyL_take (i := 11) (some 6) (.bool true) rfl rfl (by kernel_rfl) (by kernel_rfl) (by kernel_rfl) (by kernel_rfl) (fun _ _ _ h => h) (by rfl) ?hvx2_11 hS0 ?restx2_11
    case hvx2_11 =>
      intro wz hSz
      go_simp
    try simp only [Act.put, List.setIfInBounds_toArray, List.set_cons_zero, List.set_cons_succ]
    refine wpAnyL_done (by kernel_rfl) ?_ _
    have hx' : w1.drew.heap[w.heap.size]? = _ := HX.out
    have hr' : w1.drew.heap[w.heap.size + 1]? = _ := HR.out
    have hb' := bdr HB.out
    clear c0 c1 c2 c3 LTX
    generalize w1.drew = w2 at *
    have HX := Lib.hid hx'
    have HR := Lib.hid hr'
    have HB := Lib.hid hb'
    clear hx' hr' hb' hS0
    obtain ⟨c0, c1, c2, c3⟩ := trm_cells_at HX.out
    by_cases hk : t.kind = 2
    · have q2 : (t.kind != 2) = false := by rw [bne_eq_false_iff_eq]; exact hk
      by_cases hc : c = 4294967295
      · subst hc
        have hoe : fdTrm f t = ⟨1, 0, t.yes, 0⟩ := by unfold fdTrm; rw [if_pos hk, hf]; rfl
        clear hk hf
        have HPP : Hid (∀ w', Below w.heap.size w w' → PO (.returned (.agg #[.int .i64 1, .int .i64 0, .int .i64 t.yes, .int .i64 0])) w') := Lib.hid (fun w' hb => by rw [← HPO.out, hoe]; exact ⟨rfl, hb⟩)
        clear hoe
        go_upto_region 5 with (fail)
        have hz := heap_alloc_new w2 (.cells #[.int .i64 1, .int .i64 0, .int .i64 (-1), .int .i64 0] 53)
        have hb := bnew w2 (.cells #[.int .i64 1, .int .i64 0, .int .i64 (-1), .int .i64 0] 53)
        have HSZ : Hid (w.heap.size + 1 < w2.heap.size) := Lib.hid (lt_of_blk HR.out)
        have HX3 := Lib.hid ((hb.block _ (lt_of_blk HX.out)).trans HX.out)
        have HR := Lib.hid ((hb.block _ (lt_of_blk HR.out)).trans HR.out)
        have HB := Lib.hid (bch HB.out hb)
        clear c0 c1 c2 c3
        generalize w2.alloc (.cells #[.int .i64 1, .int .i64 0, .int .i64 (-1), .int .i64 0] 53) = w3 at *
        obtain ⟨c0, c1, c2, c3⟩ := trm_cells_at HX3.out
        obtain ⟨y2, u2⟩ := cell_of_blk hz 2
        have HZ := Lib.hid hz
        clear hz hb
        go_upto_region 10 with (fail)
        have hsz := HSZ.out
        have hz4 := blk_set HZ.out 2 (.int .i64 t.yes)
        have HR := Lib.hid (blk_far HR.out ⟨w2.heap.size, 2, none⟩ (.int .i64 t.yes) (by show w2.heap.size ≠ w.heap.size + 1; omega))
        have HB := Lib.hid (HB.out.setCell (p := ⟨w2.heap.size, 2, none⟩) (by show w.heap.size ≤ w2.heap.size; omega) (.int .i64 t.yes))
        clear c0 c1 c2 c3 y2 u2 hsz
        generalize w3.setCell ⟨w2.heap.size, 2, none⟩ (.int .i64 t.yes) = w4 at *
        have y0 : w4.cell? ⟨w2.heap.size, 0, none⟩ = some (.int .i64 1) := (cell_of_blk hz4 0).1
        have y1 : w4.cell? ⟨w2.heap.size, 1, none⟩ = some (.int .i64 0) := (cell_of_blk hz4 1).1
        have y2 : w4.cell? ⟨w2.heap.size, 2, none⟩ = some (.int .i64 t.yes) := (cell_of_blk hz4 2).1
        have y3 : w4.cell? ⟨w2.heap.size, 3, none⟩ = some (.int .i64 0) := (cell_of_blk hz4 3).1
        clear hz4
        obtain ⟨r0, s0⟩ := cell_of_blk HR.out 0
        obtain ⟨r1, s1⟩ := cell_of_blk HR.out 1
        obtain ⟨r2, s2⟩ := cell_of_blk HR.out 2
        obtain ⟨r3, s3⟩ := cell_of_blk HR.out 3
        go_wp2_with fail
        clear y0 y1 y2 y3
        have hr7 := (blk_set (blk_set (blk_set (blk_set HR.out 0 (.int .i64 1)) 1 (.int .i64 0)) 2 (.int .i64 t.yes)) 3 (.int .i64 0))
        have hB7 := ((((HB.out.setCell (p := ⟨w.heap.size + 1, 0, none⟩) (by show w.heap.size ≤ w.heap.size + 1; omega) (.int .i64 1)).setCell (p := ⟨w.heap.size + 1, 1, none⟩) (by show w.heap.size ≤ w.heap.size + 1; omega) (.int .i64 0)).setCell (p := ⟨w.heap.size + 1, 2, none⟩) (by show w.heap.size ≤ w.heap.size + 1; omega) (.int .i64 t.yes)).setCell (p := ⟨w.heap.size + 1, 3, none⟩) (by show w.heap.size ≤ w.heap.size + 1; omega) (.int .i64 0))
        generalize ((((w4.setCell ⟨w.heap.size + 1, 0, none⟩ (.int .i64 1)).setCell ⟨w.heap.size + 1, 1, none⟩ (.int .i64 0)).setCell ⟨w.heap.size + 1, 2, none⟩ (.int .i64 t.yes)).setCell ⟨w.heap.size + 1, 3, none⟩ (.int .i64 0)) = w7 at *
        have k0 : w7.cell? ⟨w.heap.size + 1, 0, none⟩ = some (.int .i64 1) := (cell_of_blk hr7 0).1
        have k1 : w7.cell? ⟨w.heap.size + 1, 1, none⟩ = some (.int .i64 0) := (cell_of_blk hr7 1).1
        have k2 : w7.cell? ⟨w.heap.size + 1, 2, none⟩ = some (.int .i64 t.yes) := (cell_of_blk hr7 2).1
        have k3 : w7.cell? ⟨w.heap.size + 1, 3, none⟩ = some (.int .i64 0) := (cell_of_blk hr7 3).1
        clear hr7 r0 r1 r2 r3 s0 s1 s2 s3
        refine bodyPost_ret (v := .agg #[.int .i64 1, .int .i64 0, .int .i64 t.yes, .int .i64 0]) (by simp [results, Try.results105, go_sem, k0, k1, k2, k3]; try rfl) rfl ?_
        exact HPP.out _ hB7
      · have qc : (c == 4294967295) = false := by rw [beq_eq_false_iff_ne]; exact hc
        by_cases hc0 : c = 0
        · subst hc0
          have hoe : fdTrm f t = ⟨1, 0, t.no, 0⟩ := by unfold fdTrm; rw [if_pos hk, hf]; rfl
          clear hk hf hc
          have HPP : Hid (∀ w', Below w.heap.size w w' → PO (.returned (.agg #[.int .i64 1, .int .i64 0, .int .i64 t.no, .int .i64 0])) w') := Lib.hid (fun w' hb => by rw [← HPO.out, hoe]; exact ⟨rfl, hb⟩)
          clear hoe
          go_upto_region 5 with (fail)
          have hz := heap_alloc_new w2 (.cells #[.int .i64 1, .int .i64 0, .int .i64 (-1), .int .i64 0] 53)
          have hb := bnew w2 (.cells #[.int .i64 1, .int .i64 0, .int .i64 (-1), .int .i64 0] 53)
          have HSZ : Hid (w.heap.size + 1 < w2.heap.size) := Lib.hid (lt_of_blk HR.out)
          have HX3 := Lib.hid ((hb.block _ (lt_of_blk HX.out)).trans HX.out)
          have HR := Lib.hid ((hb.block _ (lt_of_blk HR.out)).trans HR.out)
          have HB := Lib.hid (bch HB.out hb)
          clear c0 c1 c2 c3
          generalize w2.alloc (.cells #[.int .i64 1, .int .i64 0, .int .i64 (-1), .int .i64 0] 53) = w3 at *
          obtain ⟨c0, c1, c2, c3⟩ := trm_cells_at HX3.out
          obtain ⟨y2, u2⟩ := cell_of_blk hz 2
          have HZ := Lib.hid hz
          clear hz hb
          go_upto_region 10 with (fail)
          have hsz := HSZ.out
          have hz4 := blk_set HZ.out 2 (.int .i64 t.no)
          have HR := Lib.hid (blk_far HR.out ⟨w2.heap.size, 2, none⟩ (.int .i64 t.no) (by show w2.heap.size ≠ w.heap.size + 1; omega))
          have HB := Lib.hid (HB.out.setCell (p := ⟨w2.heap.size, 2, none⟩) (by show w.heap.size ≤ w2.heap.size; omega) (.int .i64 t.no))
          clear c0 c1 c2 c3 y2 u2 hsz
          generalize w3.setCell ⟨w2.heap.size, 2, none⟩ (.int .i64 t.no) = w4 at *
          have y0 : w4.cell? ⟨w2.heap.size, 0, none⟩ = some (.int .i64 1) := (cell_of_blk hz4 0).1
          have y1 : w4.cell? ⟨w2.heap.size, 1, none⟩ = some (.int .i64 0) := (cell_of_blk hz4 1).1
          have y2 : w4.cell? ⟨w2.heap.size, 2, none⟩ = some (.int .i64 t.no) := (cell_of_blk hz4 2).1
          have y3 : w4.cell? ⟨w2.heap.size, 3, none⟩ = some (.int .i64 0) := (cell_of_blk hz4 3).1
          clear hz4
          obtain ⟨r0, s0⟩ := cell_of_blk HR.out 0
          obtain ⟨r1, s1⟩ := cell_of_blk HR.out 1
          obtain ⟨r2, s2⟩ := cell_of_blk HR.out 2
          obtain ⟨r3, s3⟩ := cell_of_blk HR.out 3
          go_wp2_with fail
          clear y0 y1 y2 y3
          have hr7 := (blk_set (blk_set (blk_set (blk_set HR.out 0 (.int .i64 1)) 1 (.int .i64 0)) 2 (.int .i64 t.no)) 3 (.int .i64 0))
          have hB7 := ((((HB.out.setCell (p := ⟨w.heap.size + 1, 0, none⟩) (by show w.heap.size ≤ w.heap.size + 1; omega) (.int .i64 1)).setCell (p := ⟨w.heap.size + 1, 1, none⟩) (by show w.heap.size ≤ w.heap.size + 1; omega) (.int .i64 0)).setCell (p := ⟨w.heap.size + 1, 2, none⟩) (by show w.heap.size ≤ w.heap.size + 1; omega) (.int .i64 t.no)).setCell (p := ⟨w.heap.size + 1, 3, none⟩) (by show w.heap.size ≤ w.heap.size + 1; omega) (.int .i64 0))
          generalize ((((w4.setCell ⟨w.heap.size + 1, 0, none⟩ (.int .i64 1)).setCell ⟨w.heap.size + 1, 1, none⟩ (.int .i64 0)).setCell ⟨w.heap.size + 1, 2, none⟩ (.int .i64 t.no)).setCell ⟨w.heap.size + 1, 3, none⟩ (.int .i64 0)) = w7 at *
          have k0 : w7.cell? ⟨w.heap.size + 1, 0, none⟩ = some (.int .i64 1) := (cell_of_blk hr7 0).1
          have k1 : w7.cell? ⟨w.heap.size + 1, 1, none⟩ = some (.int .i64 0) := (cell_of_blk hr7 1).1
          have k2 : w7.cell? ⟨w.heap.size + 1, 2, none⟩ = some (.int .i64 t.no) := (cell_of_blk hr7 2).1
          have k3 : w7.cell? ⟨w.heap.size + 1, 3, none⟩ = some (.int .i64 0) := (cell_of_blk hr7 3).1
          clear hr7 r0 r1 r2 r3 s0 s1 s2 s3
          refine bodyPost_ret (v := .agg #[.int .i64 1, .int .i64 0, .int .i64 t.no, .int .i64 0]) (by simp [results, Try.results105, go_sem, k0, k1, k2, k3]; try rfl) rfl ?_
          exact HPP.out _ hB7
        · have qc0 : (c == 0) = false := by rw [beq_eq_false_iff_ne]; exact hc0
          have hoe : fdTrm f t = ⟨1, 0, -1, 0⟩ := by unfold fdTrm; rw [if_pos hk, hf]; show (⟨1, 0, if c = 4294967295 then t.yes else if c = 0 then t.no else -1, 0⟩ : Trm) = _; rw [if_neg hc, if_neg hc0]
          clear hk hf hc hc0
          have HPP : Hid (∀ w', Below w.heap.size w w' → PO (.returned (.agg #[.int .i64 1, .int .i64 0, .int .i64 (-1), .int .i64 0])) w') := Lib.hid (fun w' hb => by rw [← HPO.out, hoe]; exact ⟨rfl, hb⟩)
          clear hoe
          go_upto_region 5 with (fail)
          have hz := heap_alloc_new w2 (.cells #[.int .i64 1, .int .i64 0, .int .i64 (-1), .int .i64 0] 53)
          have hb := bnew w2 (.cells #[.int .i64 1, .int .i64 0, .int .i64 (-1), .int .i64 0] 53)
          have HSZ : Hid (w.heap.size + 1 < w2.heap.size) := Lib.hid (lt_of_blk HR.out)
          have HX3 := Lib.hid ((hb.block _ (lt_of_blk HX.out)).trans HX.out)
          have HR := Lib.hid ((hb.block _ (lt_of_blk HR.out)).trans HR.out)
          have HB := Lib.hid (bch HB.out hb)
          clear c0 c1 c2 c3
          generalize w2.alloc (.cells #[.int .i64 1, .int .i64 0, .int .i64 (-1), .int .i64 0] 53) = w3 at *
          obtain ⟨c0, c1, c2, c3⟩ := trm_cells_at HX3.out
          have y0 : w3.cell? ⟨w2.heap.size, 0, none⟩ = some (.int .i64 1) := (cell_of_blk hz 0).1
          have y1 : w3.cell? ⟨w2.heap.size, 1, none⟩ = some (.int .i64 0) := (cell_of_blk hz 1).1
          have y2 : w3.cell? ⟨w2.heap.size, 2, none⟩ = some (.int .i64 (-1)) := (cell_of_blk hz 2).1
          have y3 : w3.cell? ⟨w2.heap.size, 3, none⟩ = some (.int .i64 0) := (cell_of_blk hz 3).1
          clear hz hb
          obtain ⟨r0, s0⟩ := cell_of_blk HR.out 0
          obtain ⟨r1, s1⟩ := cell_of_blk HR.out 1
          obtain ⟨r2, s2⟩ := cell_of_blk HR.out 2
          obtain ⟨r3, s3⟩ := cell_of_blk HR.out 3
          go_wp2_with fail
          clear y0 y1 y2 y3 c0 c1 c2 c3
          have hr7 := (blk_set (blk_set (blk_set (blk_set HR.out 0 (.int .i64 1)) 1 (.int .i64 0)) 2 (.int .i64 (-1))) 3 (.int .i64 0))
          have hB7 := ((((HB.out.setCell (p := ⟨w.heap.size + 1, 0, none⟩) (by show w.heap.size ≤ w.heap.size + 1; omega) (.int .i64 1)).setCell (p := ⟨w.heap.size + 1, 1, none⟩) (by show w.heap.size ≤ w.heap.size + 1; omega) (.int .i64 0)).setCell (p := ⟨w.heap.size + 1, 2, none⟩) (by show w.heap.size ≤ w.heap.size + 1; omega) (.int .i64 (-1))).setCell (p := ⟨w.heap.size + 1, 3, none⟩) (by show w.heap.size ≤ w.heap.size + 1; omega) (.int .i64 0))
          generalize ((((w3.setCell ⟨w.heap.size + 1, 0, none⟩ (.int .i64 1)).setCell ⟨w.heap.size + 1, 1, none⟩ (.int .i64 0)).setCell ⟨w.heap.size + 1, 2, none⟩ (.int .i64 (-1))).setCell ⟨w.heap.size + 1, 3, none⟩ (.int .i64 0)) = w7 at *
          have k0 : w7.cell? ⟨w.heap.size + 1, 0, none⟩ = some (.int .i64 1) := (cell_of_blk hr7 0).1
          have k1 : w7.cell? ⟨w.heap.size + 1, 1, none⟩ = some (.int .i64 0) := (cell_of_blk hr7 1).1
          have k2 : w7.cell? ⟨w.heap.size + 1, 2, none⟩ = some (.int .i64 (-1)) := (cell_of_blk hr7 2).1
          have k3 : w7.cell? ⟨w.heap.size + 1, 3, none⟩ = some (.int .i64 0) := (cell_of_blk hr7 3).1
          clear hr7 r0 r1 r2 r3 s0 s1 s2 s3
          refine bodyPost_ret (v := .agg #[.int .i64 1, .int .i64 0, .int .i64 (-1), .int .i64 0]) (by simp [results, Try.results105, go_sem, k0, k1, k2, k3]; try rfl) rfl ?_
          exact HPP.out _ hB7
    · have q2 : (t.kind != 2) = true := by rw [bne_iff_ne]; exact hk
      have hoe : fdTrm f t = t := by unfold fdTrm; rw [if_neg hk]
      clear hk hf
      have HPP : Hid (∀ w', Below w.heap.size w w' → PO (.returned (.agg #[.int .i64 t.kind, .int .i64 t.a, .int .i64 t.yes, .int .i64 t.no])) w') := Lib.hid (fun w' hb => by rw [← HPO.out, hoe]; exact ⟨rfl, hb⟩)
      obtain ⟨r0, s0⟩ := cell_of_blk HR.out 0
      obtain ⟨r1, s1⟩ := cell_of_blk HR.out 1
      obtain ⟨r2, s2⟩ := cell_of_blk HR.out 2
      obtain ⟨r3, s3⟩ := cell_of_blk HR.out 3
      go_wp2_with fail
      clear c0 c1 c2 c3
      have hr7 := (blk_set (blk_set (blk_set (blk_set HR.out 0 (.int .i64 t.kind)) 1 (.int .i64 t.a)) 2 (.int .i64 t.yes)) 3 (.int .i64 t.no))
      have hB7 := ((((HB.out.setCell (p := ⟨w.heap.size + 1, 0, none⟩) (by show w.heap.size ≤ w.heap.size + 1; omega) (.int .i64 t.kind)).setCell (p := ⟨w.heap.size + 1, 1, none⟩) (by show w.heap.size ≤ w.heap.size + 1; omega) (.int .i64 t.a)).setCell (p := ⟨w.heap.size + 1, 2, none⟩) (by show w.heap.size ≤ w.heap.size + 1; omega) (.int .i64 t.yes)).setCell (p := ⟨w.heap.size + 1, 3, none⟩) (by show w.heap.size ≤ w.heap.size + 1; omega) (.int .i64 t.no))
      generalize ((((w2.setCell ⟨w.heap.size + 1, 0, none⟩ (.int .i64 t.kind)).setCell ⟨w.heap.size + 1, 1, none⟩ (.int .i64 t.a)).setCell ⟨w.heap.size + 1, 2, none⟩ (.int .i64 t.yes)).setCell ⟨w.heap.size + 1, 3, none⟩ (.int .i64 t.no)) = w7 at *
      have k0 : w7.cell? ⟨w.heap.size + 1, 0, none⟩ = some (.int .i64 t.kind) := (cell_of_blk hr7 0).1
      have k1 : w7.cell? ⟨w.heap.size + 1, 1, none⟩ = some (.int .i64 t.a) := (cell_of_blk hr7 1).1
      have k2 : w7.cell? ⟨w.heap.size + 1, 2, none⟩ = some (.int .i64 t.yes) := (cell_of_blk hr7 2).1
      have k3 : w7.cell? ⟨w.heap.size + 1, 3, none⟩ = some (.int .i64 t.no) := (cell_of_blk hr7 3).1
      clear hr7 r0 r1 r2 r3 s0 s1 s2 s3
      refine bodyPost_ret (v := .agg #[.int .i64 t.kind, .int .i64 t.a, .int .i64 t.yes, .int .i64 t.no]) (by simp [results, Try.results105, go_sem, k0, k1, k2, k3]; try rfl) rfl ?_
      exact HPP.out _ hB7
end Go.Proofs.Ytiaimceefkdchaa
/- Contract of package fold's block. No condition but those that the theorem names. -/
namespace Go.Proofs.Ytiaimceefkdchaa
open Go.RowKit Go.Maps
set_option linter.unusedVariables false
theorem below_grown {w w' : World} (hb : Below w.heap.size w w') (row : Option Nat) : w.grownBy w' row := ⟨hb.os, hb.tape, hb.output, hb.size, fun k hk _ => hb.block k hk⟩
theorem MapAt.isMap {w : World} {b n : Nat} {f : Int → Option Int} (h : MapAt w b n f) : ∃ es c, w.heap[b]? = some (.map es c) := by
  obtain ⟨D, ⟨es, c, h, _⟩, _⟩ := h
  exact ⟨es, c, h⟩
/-- A call that writes a map alone keeps all cells. -/
theorem grown_cells {w w' : World} {b n n' : Nat} {f f' : Int → Option Int} (hg : w.grownBy w' (some b)) (h : MapAt w b n f) (h' : MapAt w' b n' f') (p : Addr) (hp : p.block < w.heap.size) : w'.cell? p = w.cell? p := by
  by_cases e : p.block = b
  · obtain ⟨es, c, h1⟩ := h.isMap
    obtain ⟨es', c', h2⟩ := h'.isMap
    rw [← e] at h1 h2
    simp [World.cell?, h1, h2]
  · exact World.cell?_of_block (w := w) (hg.block p.block hp (fun h => e (by injection h)))
theorem own_not_map {w : World} {B t m : Nat} {v : Value} {k : Nat} {ys : List Value} (h : w.ownsRow B t m v k ys) {b n : Nat} {f : Int → Option Int} (hm : MapAt w b n f) : v.ownBlock = none ∨ v.ownBlock ≠ some b := by
  rcases h.2 with ⟨rfl, _⟩ | ⟨g, cap, cur, rfl, _, hg, _⟩
  · exact Or.inl rfl
  · right
    intro e
    injection e with e
    have e : g = b := e
    obtain ⟨es, c, h1⟩ := hm.isMap
    rw [← e, hg] at h1
    cases h1
/-- A round of fold's block begins: H is the heap's size where the call began; the map lies below it. -/
structure FdAt (w0 : World) (H : Nat) (w : World) (bc : Array Value) (ov : Value) (l : List Opn) (F b n : Nat) (f : Int → Option Int) : Prop where
  bX : w.heap[H]? = some (.cells bc 55 (0, 0))
  bR : w.heap[H + 1]? = some (.cells zBlk 55 (0, 0))
  bO : w.heap[H + 1 + 1]? = some (.cells #[ov, .int .i64 0, .int .i64 0, .int .i64 0, .int .i64 0] 55 (0, 0))
  row : w.ownsRow (H + 3) 58 6 ov l.length (opsCells l)
  fo : FoAt w F b n f
  gr : w0.grownBy w (some b)
  siz : H + 3 ≤ w.heap.size
  h0 : w0.heap.size = H
  lt : F < H ∧ b < H
section
variable {w0 w w' : World} {H : Nat} {bc : Array Value} {ov : Value} {l : List Opn} {f : Int → Option Int} {F b n : Nat}
theorem FdAt.below (h : FdAt w0 H w bc ov l F b n f) (hb : Below w.heap.size w w') : FdAt w0 H w' bc ov l F b n f :=
  ⟨(hb.block _ (lt_of_blk h.bX)).trans h.bX, (hb.block _ (lt_of_blk h.bR)).trans h.bR, (hb.block _ (lt_of_blk h.bO)).trans h.bO, own_below h.row hb, h.fo.below hb, h.gr.andThen (below_grown hb none) (fun j hj => by cases hj), by have := h.siz; have := hb.size; omega, h.h0, h.lt⟩
theorem FdAt.setOther (h : FdAt w0 H w bc ov l F b n f) (q : Addr) (u : Value) (hq : H + 3 ≤ q.block) (ho : ov.ownBlock ≠ some q.block) : FdAt w0 H (w.setCell q u) bc ov l F b n f := by
  obtain ⟨l1, l2⟩ := h.lt
  refine ⟨blk_far h.bX q u (by omega), blk_far h.bR q u (by omega), blk_far h.bO q u (by omega), h.row.kept (grown_setCell w q u) (by cases hv : ov.ownBlock with
      | none => exact Or.inl rfl
      | some r => exact Or.inr (fun e => ho (hv.trans e))), ⟨blk_far h.fo.box q u (by omega), h.fo.mp.setCell q u (by omega)⟩, h.gr.andThen (grown_setCell w q u) (fun j hj => ?_), by have := h.siz; simp [World.setCell]; exact this, h.h0, h.lt⟩
  injection hj with hj
  have := h.h0
  exact Or.inl (by omega)
theorem FdAt.map (h : FdAt w0 H w bc ov l F b n f) (hg : w.grownBy w' (some b)) {f' : Int → Option Int} {n' : Nat} (hm : MapAt w' b n' f') : FdAt w0 H w' bc ov l F b n' f' := by
  obtain ⟨l1, l2⟩ := h.lt
  have hF : F ≠ b := fun e => by
    obtain ⟨es, c, h1⟩ := h.fo.mp.isMap
    rw [← e, h.fo.box] at h1
    cases h1
  have hs := h.siz
  refine ⟨(hg.block _ (lt_of_blk h.bX) (by simp; omega)).trans h.bX, (hg.block _ (lt_of_blk h.bR) (by simp; omega)).trans h.bR, (hg.block _ (lt_of_blk h.bO) (by simp; omega)).trans h.bO,
    h.row.kept hg (own_not_map h.row h.fo.mp), ⟨(hg.block _ (lt_of_blk h.fo.box) (by simp; exact hF)).trans h.fo.box, hm⟩, h.gr.andThen hg (fun j hj => Or.inr hj), by have := hg.size; omega, h.h0, h.lt⟩
theorem FdAt.push (h : FdAt w0 H w bc ov l F b n f) (o : Opn) (hn : l.length ≤ 2000000) :
    ∃ v' w3, (Builtin.append_ #[51, 51] 51 #[ov, .slice (some ⟨w.heap.size, 0, none⟩) 1 1]).run Try.prog (w.alloc (.cells #[.int .i64 o.kind, .int .i64 o.dst, .int .i64 o.a, .int .i64 o.b, .int .i64 o.c, .int .i64 o.imm] 58)) = .ok v' w3 ∧
      w3.cell? ⟨H + 1 + 1, 0, none⟩ = some ov ∧ w3.frozen? ⟨H + 1 + 1, 0, none⟩ = false ∧ FdAt w0 H (w3.setCell ⟨H + 1 + 1, 0, none⟩ v') bc v' (l ++ [o]) F b n f ∧
      (∀ {g x}, w.heap[g]? = some x → H + 3 ≤ g → ov.ownBlock ≠ some g → (w3.setCell ⟨H + 1 + 1, 0, none⟩ v').heap[g]? = some x) ∧ (∃ A c, v' = .slice A (l.length + 1) c) := by
  obtain ⟨v', w3, a1, a2, a3, a4⟩ := run_append_op w (H + 3) ov l h.row o hn h.siz
  have hs := h.siz
  have hh := h.h0
  obtain ⟨l1, l2⟩ := h.lt
  have hold : ∀ {g x}, w.heap[g]? = some x → ov.ownBlock ≠ some g → w3.heap[g]? = some x := by
    intro g x hg hne
    have hlb := lt_of_blk hg
    exact (a3.block g (by simp; omega) (fun e => hne e.symm)).trans (((bnew w _).block g hlb).trans hg)
  have hlow : ∀ g, g < H + 3 → ov.ownBlock ≠ some g := fun g hg e => by have := (h.row.lt g e).1; omega
  have k0 := hold h.bO (hlow _ (by omega))
  have hX := hold h.bX (hlow _ (by omega))
  have hR := hold h.bR (hlow _ (by omega))
  have hF := hold h.fo.box (hlow _ (by omega))
  have hM : MapAt w3 b n f := (h.fo.mp.below (bnew w _)).keep a3 (fun e => hlow b (by omega) e.symm)
  have hG3 : w0.grownBy w3 (some b) := (h.gr.andThen (World.grownBy_alloc w _ none) (fun j hj => by cases hj)).andThen a3 (fun j hj => Or.inl (by have := (h.row.lt j hj).1; omega))
  have hs3 : H + 3 ≤ w3.heap.size := by have := a3.size; simp at this; omega
  refine ⟨v', w3, a1, (cell_of_blk k0 0).1, (cell_of_blk k0 0).2, ⟨blk_far hX _ _ (by show H + 1 + 1 ≠ H; omega), blk_far hR _ _ (by show H + 1 + 1 ≠ H + 1; omega), blk_set k0 0 v', own_setCell a2 _ _ (by show H + 1 + 1 < H + 3; omega), ⟨blk_far hF _ _ (by show H + 1 + 1 ≠ F; omega), hM.setCell _ _ (by show H + 1 + 1 ≠ b; omega)⟩,
    hG3.andThen (grown_setCell w3 _ _) (fun j hj => by injection hj with hj; exact Or.inl (by rw [← hj]; show _ ≤ H + 1 + 1; omega)), by simp [World.setCell]; exact hs3, hh, l1, l2⟩, ?_, ?_⟩
  · intro g x hg hgH hne
    exact blk_far (hold hg hne) _ _ (by show H + 1 + 1 ≠ g; omega)
  · obtain ⟨A, c, e⟩ := ownN_len a2
    exact ⟨A, c, by rw [e]; simp⟩
end
/-- Behind the rounds: the row, the folder and the memory as it was. -/
structure FoG (w0 : World) (H : Nat) (w : World) (ov : Value) (l : List Opn) (F b n : Nat) (f : Int → Option Int) : Prop where
  row : w.ownsRow (H + 3) 58 6 ov l.length (opsCells l)
  fo : FoAt w F b n f
  gr : w0.grownBy w (some b)
  h0 : w0.heap.size = H
  lt : F < H ∧ b < H
theorem FdAt.toG {w0 w : World} {H : Nat} {bc : Array Value} {ov : Value} {l : List Opn} {f : Int → Option Int} {F b n : Nat} (h : FdAt w0 H w bc ov l F b n f) : FoG w0 H w ov l F b n f := ⟨h.row, h.fo, h.gr, h.h0, h.lt⟩
theorem FoG.below {w0 w w' : World} {H : Nat} {ov : Value} {l : List Opn} {f : Int → Option Int} {F b n : Nat} (h : FoG w0 H w ov l F b n f) (hb : Below w.heap.size w w') : FoG w0 H w' ov l F b n f := ⟨own_below h.row hb, h.fo.below hb, h.gr.andThen (below_grown hb none) (fun j hj => by cases hj), h.h0, h.lt⟩
theorem FoG.set {w0 w : World} {H : Nat} {ov : Value} {l : List Opn} {f : Int → Option Int} {F b n : Nat} (h : FoG w0 H w ov l F b n f) (q : Addr) (u : Value) (h1 : H ≤ q.block) (h2 : q.block < H + 3) : FoG w0 H (w.setCell q u) ov l F b n f := by
  obtain ⟨l1, l2⟩ := h.lt
  refine ⟨own_setCell h.row q u h2, ⟨blk_far h.fo.box q u (by omega), h.fo.mp.setCell q u (by omega)⟩, h.gr.andThen (grown_setCell w q u) (fun j hj => ?_), h.h0, h.lt⟩
  injection hj with hj
  have := h.h0
  exact Or.inl (by omega)
theorem MapAt.clear2 {w : World} {b n : Nat} {f : Int → Option Int} {T : TypeId} (hT : Try.prog.underlying T = some (.map 3 3)) (h : MapAt w b n f) (ty : TypeId) :
    ∃ w', (Builtin.clear_ #[T] ty #[.map (some b)]).run Try.prog w = .ok (.tuple #[]) w' ∧ MapAt w' b 0 (fun _ => none) ∧ w.grownBy w' (some b) ∧ w'.heap.size = w.heap.size := by
  obtain ⟨D, ⟨es, clock, hb, F, hs, hD⟩, hget⟩ := h
  refine ⟨ChangeMaps.setBlock w b (.map #[] clock), ?_, ⟨.map [], ⟨#[], clock, ChangeMaps.heap_setBlock_same hb _, ⟨by simp, MapKept.stamped_empty clock, by simp⟩, Nat.le_refl _, rfl⟩, mget_empty⟩, ⟨rfl, rfl, rfl, by simp [ChangeMaps.setBlock], fun i _ hi => ChangeMaps.heap_setBlock_other hb _ (fun e => hi (by rw [e]))⟩, by simp [ChangeMaps.setBlock]⟩
  simp [Builtin.clear_, run_underlying hT, MapKept.run_getObj_map hb, MapKept.run_setObj_map _ hb, Result.andThen, ChangeMaps.setBlock]
/-- The block is handed back; of what was there, the map alone is another one. -/
def FbPost (q : Blk) (F b : Nat) (w : World) (e : Ending) (w' : World) : Prop :=
  ∃ A c n' f', e = .returned (.agg #[.slice A q.ops.length c, .int .i64 q.term.kind, .int .i64 q.term.a, .int .i64 q.term.yes, .int .i64 q.term.no]) ∧ w'.ownsRow w.heap.size 58 6 (.slice A q.ops.length c) q.ops.length (opsCells q.ops) ∧ w.grownBy w' (some b) ∧ FoAt w' F b n' f'
set_option maxRecDepth 100000 in
set_option maxHeartbeats 8000000 in
theorem fold_block (F mb n0 : Nat) (f0 : Int → Option Int) (OA : Option Addr) (oc : Nat) (b : Blk) (hf : b.fine) (hqf : (fdBlk b).fine) (hn : b.ops.length ≤ 1048576) (w : World) (h : FoAt w F mb n0 f0) (hO : SlRep opEnc w w.heap.size (.slice OA b.ops.length oc) b.ops) :
    Calls Try.prog 78 #[.pointer (some ⟨F, 0, none⟩), .agg #[.slice OA b.ops.length oc, .int .i64 b.term.kind, .int .i64 b.term.a, .int .i64 b.term.yes, .int .i64 b.term.no]] w (FbPost (fdBlk b) F mb w) := by
  have HPL : Hid (∀ f' l', fdList b.ops = (f', l') → fdBlk b = ⟨l', fdTrm f' b.term⟩) := Lib.hid (fun f' l' e => by unfold fdBlk; rw [e])
  obtain ⟨ops, trm⟩ := b
  obtain ⟨_, hfo, htf⟩ := hf
  simp only at hn hfo hO htf ⊢
  have HO := Lib.hid hO
  have HFO := Lib.hid hfo
  have HTF := Lib.hid htf
  have HQF : Hid (∀ k, k < ops.length → (fdOp (fdList (ops.take k)).1 (ops.getD k opNone)).fine) := Lib.hid (fun k hk => by
    have h1 := hqf.2.1 ((fdList ops).2.getD k opNone) (getD_memI (fdList ops).2 k opNone (by rw [fdList_len]; exact hk))
    rw [fdList_at ops k hk] at h1
    exact h1)
  have htc : trm.kind = trm.kind := rfl
  generalize hPO : FbPost (fdBlk ⟨ops, trm⟩) F mb w = PO
  have HPO := Lib.hid hPO
  have HTM := Lib.hid (fun f n W h => fold_term F mb n f trm htf W h)
  obtain ⟨tk, ta, ty, tn⟩ := trm
  simp only
  have hw0 := h.box
  have hFl := lt_of_blk hw0
  have hbl := h.mp.lt
  have e1 := alloc_size w (.cells #[.slice OA ops.length oc, .int .i64 tk, .int .i64 ta, .int .i64 ty, .int .i64 tn] 55) rfl
  have e2 := alloc_size _ (.cells zBlk 55) e1
  have hX := alloc_old (alloc_last w _ rfl (.cells #[.slice OA ops.length oc, .int .i64 tk, .int .i64 ta, .int .i64 ty, .int .i64 tn] 55)) (.cells zBlk 55)
  have hR := alloc_last _ _ e1 (.cells zBlk 55)
  have hB := bal (bnew w (.cells #[.slice OA ops.length oc, .int .i64 tk, .int .i64 ta, .int .i64 ty, .int .i64 tn] 55)) (.cells zBlk 55)
  have hF1 := h.below hB
  have hzb : zBlk = #[.slice none 0 0, .int .i64 0, .int .i64 0, .int .i64 0, .int .i64 0] := rfl
  have HZB := Lib.hid hzb
  obtain ⟨wc, hclr, hmc, hgc, hsc⟩ := hF1.mp.clear2 Try.underlying100 0
  have c0 := hF1.cell
  rw [hzb] at hclr c0 hB hX hR e2 hF1 hgc hsc
  have HM0 := Lib.hid h.mp
  clear hPO hfo hO hqf htf htc hzb
  go_enter Try.func78, Try.ntmps78
  go_upto_region 1 with (fail)
  generalize (w.alloc (.cells #[.slice OA ops.length oc, .int .i64 tk, .int .i64 ta, .int .i64 ty, .int .i64 tn] 55)).alloc (.cells #[.slice none 0 0, .int .i64 0, .int .i64 0, .int .i64 0, .int .i64 0] 55) = w1 at *
  go_upto_region 3 with (fail)
  have hsw : w1.heap.size = w.heap.size + 2 := e2
  have hsc2 : wc.heap.size = w.heap.size + 1 + 1 := by rw [hsc, hsw]
  have hbc : mb ≠ w.heap.size ∧ mb ≠ w.heap.size + 1 ∧ F ≠ mb := ⟨by omega, by omega, fun e => by
    obtain ⟨es, c, h1⟩ := HM0.out.isMap
    rw [← e, hw0] at h1
    cases h1⟩
  have hXc := (hgc.block _ (lt_of_blk hX) (by intro e; injection e with e; exact hbc.1 e.symm)).trans hX
  have hRc := (hgc.block _ (lt_of_blk hR) (by intro e; injection e with e; exact hbc.2.1 e.symm)).trans hR
  have hFc := (hgc.block _ (lt_of_blk hF1.box) (by intro e; injection e with e; exact hbc.2.2 e)).trans hF1.box
  have hgw : w.grownBy wc (some mb) := (below_grown hB (some mb)).andThen hgc (fun j hj => Or.inr hj)
  have hfd : FdAt w w.heap.size (wc.alloc (.cells #[.slice none 0 0, .int .i64 0, .int .i64 0, .int .i64 0, .int .i64 0] 55)) #[.slice OA ops.length oc, .int .i64 tk, .int .i64 ta, .int .i64 ty, .int .i64 tn] (.slice none 0 0) [] F mb 0 (fdList (ops.take 0)).1 :=
    ⟨alloc_old hXc _, (by rw [HZB.out]; exact alloc_old hRc _), alloc_last _ _ hsc2 _, World.ownsRow_nil _ _ _ _, FoAt.below ⟨hFc, hmc⟩ (bnew _ _), hgw.andThen (World.grownBy_alloc _ _ none) (fun j hj => by cases hj), by rw [alloc_size _ _ hsc2]; omega, rfl, hFl, hbl⟩
  have HFD := Lib.hid hfd
  try rw [hsc2]
  clear hfd hgw hFc hRc hXc hbc hsc2 hsw hsc hgc hmc hclr c0 hF1 hB hR hX e2 e1 hFl hbl hw0
  generalize wc.alloc (.cells #[.slice none 0 0, .int .i64 0, .int .i64 0, .int .i64 0, .int .i64 0] 55) = w4 at *
  have x0 := (cell_of_blk HFD.out.bX 0).1
  have x0' : w4.cell? ⟨w.heap.size, 0, none⟩ = some (.slice OA ops.length oc) := x0
  clear x0
  go_wp2_with fail
  clear x0'
  go_loopw [15] (fun vi wr => ∃ (k n : Nat) (ov : Value), k ≤ ops.length ∧ n ≤ k ∧ vi = .int .i64 k ∧ FdAt w w.heap.size wr #[.slice OA ops.length oc, .int .i64 tk, .int .i64 ta, .int .i64 ty, .int .i64 tn] ov (fdList (ops.take k)).2 F mb n (fdList (ops.take k)).1) (fun vi _ => ops.length - (intOf vi).toNat)
  case atStart => exact ⟨0, 0, _, Nat.zero_le _, Nat.le_refl _, rfl, HFD.out⟩
  case round =>
    obtain ⟨k, n, ov, hk, hnk, rfl, hC⟩ := hrel
    have HC := Lib.hid hC
    by_cases hlt : k < ops.length
    · obtain ⟨ob, ooff, rfl, hob, x0, x1, x2, x3, x4, x5⟩ := op_at (SlRep.keep HO.out (Nat.le_refl _) (fun p hp => grown_cells hC.gr HM0.out hC.fo.mp p hp)) k hlt
      have hff := HFO.out _ (getD_memI ops k opNone hlt)
      have hqff := HQF.out k hlt
      have HSN : Hid (fdList (ops.take (k + 1)) = fdStep (fdList (ops.take k)) (ops.getD k opNone)) := Lib.hid (by rw [take_succ_getD ops k opNone hlt, fdList_snoc])
      have hlen := fdList_len (ops.take k)
      rw [List.length_take, Nat.min_eq_left hk] at hlen
      have k0 : (0 : Int) ≤ (k : Int) := by omega
      have k1 : (k : Int) < (ops.length : Int) := by omega
      generalize ops.getD k opNone = o at *
      generalize fdList (ops.take k) = S at *
      obtain ⟨f, l⟩ := S
      unfold fdStep at HSN
      have HOPC := Lib.hid (fun W h => fold_op F mb n f o hff W h)
      unfold opVal CopPost at HOPC
      unfold opVal at HOPC
      have hlen2 : l.length = k := hlen
      have HMK := Lib.hid (fun W => ir_Makes (fdOp f o) W)
      unfold opVal at HMK
      have hqff : (fdOp f o).fine := hqff
      generalize fdOp f o = q at *
      have HC1 := Lib.hid (HC.out.below (bnew wr (.cells #[.int .i64 o.kind, .int .i64 o.dst, .int .i64 o.a, .int .i64 o.b, .int .i64 o.c, .int .i64 o.imm] 58)))
      have hX1 := heap_alloc_new wr (.cells #[.int .i64 o.kind, .int .i64 o.dst, .int .i64 o.a, .int .i64 o.b, .int .i64 o.c, .int .i64 o.imm] 58)
      have HSZ : Hid (w.heap.size + 3 ≤ wr.heap.size) := Lib.hid HC.out.siz
      have HNE : Hid (ov.ownBlock ≠ some wr.heap.size) := Lib.hid (fun e => by have := (HC.out.row.lt _ e).2; omega)
      have HFQ := Lib.hid hqff
      clear hC hff hqff
      go_wp2_with fail
      generalize wr.alloc (.cells #[.int .i64 o.kind, .int .i64 o.dst, .int .i64 o.a, .int .i64 o.b, .int .i64 o.c, .int .i64 o.imm] 58) = w1' at *
      refine (HOPC.out _ HC1.out.fo).mono ?_
      rintro e w2 ⟨rfl, hb2⟩
      have hX2 := (hb2.block _ (lt_of_blk hX1)).trans hX1
      have HC2 := Lib.hid (HC1.out.below hb2)
      have hC6 := ((((((HC2.out.setOther ⟨wr.heap.size, 0, none⟩ (.int .i64 q.kind) HSZ.out HNE.out).setOther ⟨wr.heap.size, 1, none⟩ (.int .i64 q.dst) HSZ.out HNE.out).setOther ⟨wr.heap.size, 2, none⟩ (.int .i64 q.a) HSZ.out HNE.out).setOther ⟨wr.heap.size, 3, none⟩ (.int .i64 q.b) HSZ.out HNE.out).setOther ⟨wr.heap.size, 4, none⟩ (.int .i64 q.c) HSZ.out HNE.out).setOther ⟨wr.heap.size, 5, none⟩ (.int .i64 q.imm) HSZ.out HNE.out)
      have hX6 : ((((((w2.setCell ⟨wr.heap.size, 0, none⟩ (.int .i64 q.kind)).setCell ⟨wr.heap.size, 1, none⟩ (.int .i64 q.dst)).setCell ⟨wr.heap.size, 2, none⟩ (.int .i64 q.a)).setCell ⟨wr.heap.size, 3, none⟩ (.int .i64 q.b)).setCell ⟨wr.heap.size, 4, none⟩ (.int .i64 q.c)).setCell ⟨wr.heap.size, 5, none⟩ (.int .i64 q.imm)).heap[wr.heap.size]? = some (.cells #[.int .i64 q.kind, .int .i64 q.dst, .int .i64 q.a, .int .i64 q.b, .int .i64 q.c, .int .i64 q.imm] 58 (0, 0)) := (blk_set (blk_set (blk_set (blk_set (blk_set (blk_set hX2 0 (.int .i64 q.kind)) 1 (.int .i64 q.dst)) 2 (.int .i64 q.a)) 3 (.int .i64 q.b)) 4 (.int .i64 q.c)) 5 (.int .i64 q.imm))
      obtain ⟨d0, f0⟩ := cell_of_blk hX2 0
      obtain ⟨d1, f1⟩ := cell_of_blk hX2 1
      obtain ⟨d2, f2⟩ := cell_of_blk hX2 2
      obtain ⟨d3, f3⟩ := cell_of_blk hX2 3
      obtain ⟨d4, f4⟩ := cell_of_blk hX2 4
      obtain ⟨d5, f5⟩ := cell_of_blk hX2 5
      clear hX1 hb2 x0 x1 x2 x3 x4 x5
      have HX6 := Lib.hid hX6
      have HC6 := Lib.hid hC6
      clear hX6 hC6 hX2
      go_upto_region 7 with (fail)
      clear d0 d1 d2 d3 d4 d5 f0 f1 f2 f3 f4 f5
      generalize ((((((w2.setCell ⟨wr.heap.size, 0, none⟩ (.int .i64 q.kind)).setCell ⟨wr.heap.size, 1, none⟩ (.int .i64 q.dst)).setCell ⟨wr.heap.size, 2, none⟩ (.int .i64 q.a)).setCell ⟨wr.heap.size, 3, none⟩ (.int .i64 q.b)).setCell ⟨wr.heap.size, 4, none⟩ (.int .i64 q.c)).setCell ⟨wr.heap.size, 5, none⟩ (.int .i64 q.imm)) = w6 at *
      obtain ⟨QA, qc, rfl⟩ := ownN_len HC6.out.row
      have o0 := (cell_of_blk HC6.out.bO 0).1
      obtain ⟨e0, e1, e2, e3, e4, e5, _, _, _, _⟩ := op_cells_at HX6.out
      obtain ⟨v', w3, hrun, p1, p2, hC8, hK8, ⟨VA, vc, rfl⟩⟩ := HC6.out.push q (by omega)
      have hX8 := hK8 HX6.out HSZ.out HNE.out
      rw [hlen2] at hrun o0 p1 hC8 hX8
      have HRUN := Lib.hid hrun
      have HC8 := Lib.hid hC8
      have HX8 := Lib.hid hX8
      obtain ⟨g0, g1, g2, g3, g4, g5, _, _, _, _⟩ := op_cells_at hX8
      clear hrun hC8 hX8 hK8
      go_upto_region 8 with ((at_builtin; refine wpList_app rfl (.tmp 23) (.tmp 25) 51 rfl HRUN.out rfl rfl ?_))
      clear e0 e1 e2 e3 e4 e5 o0 p1 p2 HRUN
      generalize w3.setCell ⟨w.heap.size + 1 + 1, 0, none⟩ (.slice VA (k + 1) vc) = w8 at *
      by_cases hk1 : q.kind = 1
      · have q1 : (q.kind == 1) = true := by rw [beq_iff_eq]; exact hk1
        have hcm : fdMap f q = upd f q.dst q.imm := by unfold fdMap; rw [if_pos hk1]
        have HSN2 : Hid (fdList (ops.take (k + 1)) = (upd f q.dst q.imm, l ++ [q])) := Lib.hid (by rw [← hcm]; exact HSN.out)
        have LTG : wr.heap.size < w8.heap.size := lt_of_blk HX8.out
        have HC8d := Lib.hid (HC8.out.below (bdr (Below.refl w8.heap.size w8)))
        obtain ⟨w11, hrun, hm11, hg11⟩ := HC8d.out.fo.mp.store Try.underlying100 (by unfold maxLen; omega) q.dst q.imm (intR_lit HFQ.out.2.1) (intR_lit HFQ.out.2.2.2.2.2)
        have HC11 := Lib.hid (HC8d.out.map hg11 hm11)
        clear hk1 hcm hm11 hg11
        go_wp2_with fail
        refine wp_region_L (fun w' => Below w8.heap.size w8 w') 8 (by kernel_rfl) ?_
        have hS0 : Below w8.heap.size w8 w8.drew := Below.drew (Below.refl _ _)
        refine wpAnyL_take (i := 0) (some 32) (.pointer (some ⟨F, 0, none⟩)) rfl rfl (by kernel_rfl) (by kernel_rfl) (by kernel_rfl) (by kernel_rfl) (fun _ _ _ h => h) (by rfl) ?hvx1_0 hS0 ?restx1_0
        case hvx1_0 =>
          intro wz hSz
          go_simp
        try simp only [Act.put, List.setIfInBounds_toArray, List.set_cons_zero, List.set_cons_succ]
        refine wpAnyL_take (i := 1) (some 33) (.pointer (some ⟨F, 0, none⟩)) rfl rfl (by kernel_rfl) (by kernel_rfl) (by kernel_rfl) (by kernel_rfl) (fun _ _ _ h => h) (by rfl) ?hvx1_1 hS0 ?restx1_1
        case hvx1_1 =>
          intro wz hSz
          go_simp
        try simp only [Act.put, List.setIfInBounds_toArray, List.set_cons_zero, List.set_cons_succ]
        refine wpAnyL_take (i := 2) (some 34) (.pointer (some ⟨F, 0, none⟩)) rfl rfl (by kernel_rfl) (by kernel_rfl) (by kernel_rfl) (by kernel_rfl) (fun _ _ _ h => h) (by rfl) ?hvx1_2 hS0 ?restx1_2
        case hvx1_2 =>
          intro wz hSz
          go_simp
        try simp only [Act.put, List.setIfInBounds_toArray, List.set_cons_zero, List.set_cons_succ]
        refine wpAnyL_take (i := 3) (some 35) (.map (some mb)) rfl rfl (by kernel_rfl) (by kernel_rfl) (by kernel_rfl) (by kernel_rfl) (fun _ _ _ h => h) (by rfl) ?hvx1_3 hS0 ?restx1_3
        case hvx1_3 =>
          intro wz hSz
          have z0 := (HC8.out.fo.below hSz).cell
          go_simp
        try simp only [Act.put, List.setIfInBounds_toArray, List.set_cons_zero, List.set_cons_succ]
        refine wpAnyL_take (i := 4) (some 36) (.pointer (some ⟨wr.heap.size, 1, none⟩)) rfl rfl (by kernel_rfl) (by kernel_rfl) (by kernel_rfl) (by kernel_rfl) (fun _ _ _ h => h) (by rfl) ?hvx1_4 hS0 ?restx1_4
        case hvx1_4 =>
          intro wz hSz
          go_simp
        try simp only [Act.put, List.setIfInBounds_toArray, List.set_cons_zero, List.set_cons_succ]
        refine wpAnyL_take (i := 5) (some 37) (.int .i64 q.dst) rfl rfl (by kernel_rfl) (by kernel_rfl) (by kernel_rfl) (by kernel_rfl) (fun _ _ _ h => h) (by rfl) ?hvx1_5 hS0 ?restx1_5
        case hvx1_5 =>
          intro wz hSz
          have z1 := (hSz.cell (p := ⟨wr.heap.size, 1, none⟩) LTG).trans g1
          go_simp
        try simp only [Act.put, List.setIfInBounds_toArray, List.set_cons_zero, List.set_cons_succ]
        refine wpAnyL_take (i := 6) (some 38) (.pointer (some ⟨wr.heap.size, 5, none⟩)) rfl rfl (by kernel_rfl) (by kernel_rfl) (by kernel_rfl) (by kernel_rfl) (fun _ _ _ h => h) (by rfl) ?hvx1_6 hS0 ?restx1_6
        case hvx1_6 =>
          intro wz hSz
          go_simp
        try simp only [Act.put, List.setIfInBounds_toArray, List.set_cons_zero, List.set_cons_succ]
        refine wpAnyL_take (i := 7) (some 39) (.int .i64 q.imm) rfl rfl (by kernel_rfl) (by kernel_rfl) (by kernel_rfl) (by kernel_rfl) (fun _ _ _ h => h) (by rfl) ?hvx1_7 hS0 ?restx1_7
        case hvx1_7 =>
          intro wz hSz
          have z5 := (hSz.cell (p := ⟨wr.heap.size, 5, none⟩) LTG).trans g5
          go_simp
        try simp only [Act.put, List.setIfInBounds_toArray, List.set_cons_zero, List.set_cons_succ]
        refine wpAnyL_one (i := 8) (by kernel_rfl) rfl ?_
        intro K hK
        rw [if_pos (by rfl)]
        go_simp
        refine hK.out _ _ (fun h => absurd rfl h) ?_
        clear hK
        refine wpAnyL_done (by kernel_rfl) ?_ _
        clear g0 g1 g2 g3 g4 g5 hrun
        go_wp2_with fail
        go_roundw
        case rel => exact ⟨k + 1, n + 1, _, by omega, by omega, by go_num, by rw [HSN2.out]; exact HC11.out⟩
        case measure => simp [intOf]; omega
      · have q1 : (q.kind == 1) = false := by rw [beq_eq_false_iff_ne]; exact hk1
        go_wp2_with fail
        refine (HMK.out _).mono ?_
        rintro e w9 ⟨rfl, hb9⟩
        have HC9 := Lib.hid (HC8.out.below hb9)
        have hX9 := (hb9.block _ (lt_of_blk HX8.out)).trans HX8.out
        clear g0 g1 g2 g3 g4 g5 hb9
        obtain ⟨g0, g1, g2, g3, g4, g5, _, _, _, _⟩ := op_cells_at hX9
        have HX9 := Lib.hid hX9
        clear hX9
        by_cases hmk : fDst q.kind = true
        · rw [hmk]
          have hcm : fdMap f q = fun k => if k = q.dst then none else f k := by unfold fdMap; rw [if_neg hk1, if_pos hmk]
          have HSN2 : Hid (fdList (ops.take (k + 1)) = (fun k => if k = q.dst then none else f k, l ++ [q])) := Lib.hid (by rw [← hcm]; exact HSN.out)
          have LTG : wr.heap.size < w9.heap.size := lt_of_blk HX9.out
          have HC9d := Lib.hid (HC9.out.below (bdr (Below.refl w9.heap.size w9)))
          obtain ⟨w11, hrun, hm11, hg11⟩ := HC9d.out.fo.mp.drop Try.underlying100 q.dst (intR_lit HFQ.out.2.1) 0
          have HC11 := Lib.hid (HC9d.out.map hg11 hm11)
          have hS11 : w11.cell? ⟨F, 0, none⟩ = some (.map (some mb)) ∧ w11.cell? ⟨wr.heap.size, 1, none⟩ = some (.int .i64 q.dst) := ⟨HC11.out.fo.cell, (grown_cells hg11 HC9d.out.fo.mp hm11 ⟨wr.heap.size, 1, none⟩ LTG).trans g1⟩
          clear hk1 hmk hcm hm11 hg11
          go_wp2_with fail
          refine wp_region_L (fun w' => w'.cell? ⟨F, 0, none⟩ = some (.map (some mb)) ∧ w'.cell? ⟨wr.heap.size, 1, none⟩ = some (.int .i64 q.dst)) 99 (by kernel_rfl) ?_
          have hS0 : w9.drew.cell? ⟨F, 0, none⟩ = some (.map (some mb)) ∧ w9.drew.cell? ⟨wr.heap.size, 1, none⟩ = some (.int .i64 q.dst) := ⟨HC9d.out.fo.cell, g1⟩
          refine wpAnyL_take (i := 0) (some 43) (.pointer (some ⟨F, 0, none⟩)) rfl rfl (by kernel_rfl) (by kernel_rfl) (by kernel_rfl) (by kernel_rfl) (fun _ _ _ h => h) (by rfl) ?hvx2_0 hS0 ?restx2_0
          case hvx2_0 =>
            intro wz hSz
            go_simp
          try simp only [Act.put, List.setIfInBounds_toArray, List.set_cons_zero, List.set_cons_succ]
          refine wpAnyL_take (i := 1) (some 44) (.pointer (some ⟨F, 0, none⟩)) rfl rfl (by kernel_rfl) (by kernel_rfl) (by kernel_rfl) (by kernel_rfl) (fun _ _ _ h => h) (by rfl) ?hvx2_1 hS0 ?restx2_1
          case hvx2_1 =>
            intro wz hSz
            go_simp
          try simp only [Act.put, List.setIfInBounds_toArray, List.set_cons_zero, List.set_cons_succ]
          refine wpAnyL_take (i := 2) (some 45) (.pointer (some ⟨F, 0, none⟩)) rfl rfl (by kernel_rfl) (by kernel_rfl) (by kernel_rfl) (by kernel_rfl) (fun _ _ _ h => h) (by rfl) ?hvx2_2 hS0 ?restx2_2
          case hvx2_2 =>
            intro wz hSz
            go_simp
          try simp only [Act.put, List.setIfInBounds_toArray, List.set_cons_zero, List.set_cons_succ]
          refine wpAnyL_take (i := 3) (some 46) (.map (some mb)) rfl rfl (by kernel_rfl) (by kernel_rfl) (by kernel_rfl) (by kernel_rfl) (fun _ _ _ h => h) (by rfl) ?hvx2_3 hS0 ?restx2_3
          case hvx2_3 =>
            intro wz hSz
            have z0 := hSz.1
            go_simp
          try simp only [Act.put, List.setIfInBounds_toArray, List.set_cons_zero, List.set_cons_succ]
          refine wpAnyL_take (i := 4) (some 47) (.pointer (some ⟨wr.heap.size, 1, none⟩)) rfl rfl (by kernel_rfl) (by kernel_rfl) (by kernel_rfl) (by kernel_rfl) (fun _ _ _ h => h) (by rfl) ?hvx2_4 hS0 ?restx2_4
          case hvx2_4 =>
            intro wz hSz
            go_simp
          try simp only [Act.put, List.setIfInBounds_toArray, List.set_cons_zero, List.set_cons_succ]
          refine wpAnyL_take (i := 5) (some 48) (.int .i64 q.dst) rfl rfl (by kernel_rfl) (by kernel_rfl) (by kernel_rfl) (by kernel_rfl) (fun _ _ _ h => h) (by rfl) ?hvx2_5 hS0 ?restx2_5
          case hvx2_5 =>
            intro wz hSz
            have z1 := hSz.2
            go_simp
          try simp only [Act.put, List.setIfInBounds_toArray, List.set_cons_zero, List.set_cons_succ]
          refine wpAnyL_one (i := 6) (by kernel_rfl) rfl ?_
          intro K hK
          rw [if_pos (by rfl)]
          go_simp
          refine hK.out _ _ (fun _ => hS11) ?_
          clear hK
          refine wpAnyL_done (by kernel_rfl) ?_ _
          clear g0 g1 g2 g3 g4 g5 hrun
          go_wp2_with fail
          go_roundw
          case rel => exact ⟨k + 1, n, _, by omega, by omega, by go_num, by rw [HSN2.out]; exact HC11.out⟩
          case measure => simp [intOf]; omega
        · have hmk2 : fDst q.kind = false := by simpa using hmk
          have hcm : fdMap f q = f := by unfold fdMap; rw [if_neg hk1, if_neg hmk]
          have HSN2 : Hid (fdList (ops.take (k + 1)) = (f, l ++ [q])) := Lib.hid (by rw [← hcm]; exact HSN.out)
          rw [hmk2]
          clear hk1 hmk hmk2 hcm
          go_wp2_with fail
          go_roundw
          case rel => exact ⟨k + 1, n, _, by omega, by omega, by go_num, by rw [HSN2.out]; exact HC9.out⟩
          case measure => simp [intOf]; omega
    · obtain rfl : k = ops.length := by omega
      have hlen := fdList_len ops
      rw [List.take_length] at hC
      clear HC
      generalize fdList ops = S at *
      obtain ⟨f, l⟩ := S
      have hpl := HPL.out f l rfl
      rw [hpl] at HPO
      have hlen : l.length = ops.length := hlen
      obtain ⟨QA, qc, rfl⟩ := ownN_len hC.row
      have hC : FdAt w w.heap.size wr #[.slice OA ops.length oc, .int .i64 tk, .int .i64 ta, .int .i64 ty, .int .i64 tn] (.slice QA l.length qc) l F mb n f := hC
      have HC := Lib.hid hC
      obtain ⟨x0, x1, x2, x3, x4, _, _⟩ := blk_cells_at hC.bX
      replace HTM := Lib.hid (fun W h => HTM.out f n W h)
      unfold TrmPost trmVal at HTM
      have HQQ : Hid (fdTrm f ⟨tk, ta, ty, tn⟩ = fdTrm f ⟨tk, ta, ty, tn⟩) := Lib.hid rfl
      generalize fdTrm f ⟨tk, ta, ty, tn⟩ = qt at *
      obtain ⟨qk, qa, qy, qn⟩ := qt
      simp only at HTM
      clear hC hpl HQQ
      go_wp2_with fail
      refine (HTM.out _ HC.out.fo).mono ?_
      rintro e w5 ⟨rfl, hb5⟩
      have HC5 := Lib.hid (HC.out.below hb5)
      obtain ⟨y1, t1⟩ := cell_of_blk HC5.out.bO 1
      obtain ⟨y2, t2⟩ := cell_of_blk HC5.out.bO 2
      obtain ⟨y3, t3⟩ := cell_of_blk HC5.out.bO 3
      obtain ⟨y4, t4⟩ := cell_of_blk HC5.out.bO 4
      clear x0 x1 x2 x3 x4 hb5
      go_upto_region 14 with (fail)
      have hO6 := (blk_set (blk_set (blk_set (blk_set HC5.out.bO 1 (.int .i64 qk)) 2 (.int .i64 qa)) 3 (.int .i64 qy)) 4 (.int .i64 qn))
      have hR6 := (blk_far (blk_far (blk_far (blk_far HC5.out.bR ⟨w.heap.size + 1 + 1, 1, none⟩ (.int .i64 qk) (by show w.heap.size + 1 + 1 ≠ w.heap.size + 1; omega)) ⟨w.heap.size + 1 + 1, 2, none⟩ (.int .i64 qa) (by show w.heap.size + 1 + 1 ≠ w.heap.size + 1; omega)) ⟨w.heap.size + 1 + 1, 3, none⟩ (.int .i64 qy) (by show w.heap.size + 1 + 1 ≠ w.heap.size + 1; omega)) ⟨w.heap.size + 1 + 1, 4, none⟩ (.int .i64 qn) (by show w.heap.size + 1 + 1 ≠ w.heap.size + 1; omega))
      have hG6 := ((((HC5.out.toG.set ⟨w.heap.size + 1 + 1, 1, none⟩ (.int .i64 qk) (by show w.heap.size ≤ w.heap.size + 1 + 1; omega) (by show w.heap.size + 1 + 1 < w.heap.size + 3; omega)).set ⟨w.heap.size + 1 + 1, 2, none⟩ (.int .i64 qa) (by show w.heap.size ≤ w.heap.size + 1 + 1; omega) (by show w.heap.size + 1 + 1 < w.heap.size + 3; omega)).set ⟨w.heap.size + 1 + 1, 3, none⟩ (.int .i64 qy) (by show w.heap.size ≤ w.heap.size + 1 + 1; omega) (by show w.heap.size + 1 + 1 < w.heap.size + 3; omega)).set ⟨w.heap.size + 1 + 1, 4, none⟩ (.int .i64 qn) (by show w.heap.size ≤ w.heap.size + 1 + 1; omega) (by show w.heap.size + 1 + 1 < w.heap.size + 3; omega))
      clear y1 y2 y3 y4 t1 t2 t3 t4
      generalize ((((w5.setCell ⟨w.heap.size + 1 + 1, 1, none⟩ (.int .i64 qk)).setCell ⟨w.heap.size + 1 + 1, 2, none⟩ (.int .i64 qa)).setCell ⟨w.heap.size + 1 + 1, 3, none⟩ (.int .i64 qy)).setCell ⟨w.heap.size + 1 + 1, 4, none⟩ (.int .i64 qn)) = w6 at *
      unfold zBlk at hR6
      have HR6 := Lib.hid hR6
      have HG6 := Lib.hid hG6
      obtain ⟨y0, y1, y2, y3, y4, _, _⟩ := blk_cells_at hO6
      obtain ⟨r0, s0⟩ := cell_of_blk hR6 0
      obtain ⟨r1, s1⟩ := cell_of_blk hR6 1
      obtain ⟨r2, s2⟩ := cell_of_blk hR6 2
      obtain ⟨r3, s3⟩ := cell_of_blk hR6 3
      obtain ⟨r4, s4⟩ := cell_of_blk hR6 4
      clear hR6 hO6 hG6
      go_wp2_with fail
      have hr7 := (blk_set (blk_set (blk_set (blk_set (blk_set HR6.out 0 (.slice QA ops.length qc)) 1 (.int .i64 qk)) 2 (.int .i64 qa)) 3 (.int .i64 qy)) 4 (.int .i64 qn))
      have hG7 := (((((HG6.out.set ⟨w.heap.size + 1, 0, none⟩ (.slice QA ops.length qc) (by show w.heap.size ≤ w.heap.size + 1; omega) (by show w.heap.size + 1 < w.heap.size + 3; omega)).set ⟨w.heap.size + 1, 1, none⟩ (.int .i64 qk) (by show w.heap.size ≤ w.heap.size + 1; omega) (by show w.heap.size + 1 < w.heap.size + 3; omega)).set ⟨w.heap.size + 1, 2, none⟩ (.int .i64 qa) (by show w.heap.size ≤ w.heap.size + 1; omega) (by show w.heap.size + 1 < w.heap.size + 3; omega)).set ⟨w.heap.size + 1, 3, none⟩ (.int .i64 qy) (by show w.heap.size ≤ w.heap.size + 1; omega) (by show w.heap.size + 1 < w.heap.size + 3; omega)).set ⟨w.heap.size + 1, 4, none⟩ (.int .i64 qn) (by show w.heap.size ≤ w.heap.size + 1; omega) (by show w.heap.size + 1 < w.heap.size + 3; omega))
      generalize (((((w6.setCell ⟨w.heap.size + 1, 0, none⟩ (.slice QA ops.length qc)).setCell ⟨w.heap.size + 1, 1, none⟩ (.int .i64 qk)).setCell ⟨w.heap.size + 1, 2, none⟩ (.int .i64 qa)).setCell ⟨w.heap.size + 1, 3, none⟩ (.int .i64 qy)).setCell ⟨w.heap.size + 1, 4, none⟩ (.int .i64 qn)) = w7 at *
      have k0 : w7.cell? ⟨w.heap.size + 1, 0, none⟩ = some (.slice QA ops.length qc) := (cell_of_blk hr7 0).1
      have k1 : w7.cell? ⟨w.heap.size + 1, 1, none⟩ = some (.int .i64 qk) := (cell_of_blk hr7 1).1
      have k2 : w7.cell? ⟨w.heap.size + 1, 2, none⟩ = some (.int .i64 qa) := (cell_of_blk hr7 2).1
      have k3 : w7.cell? ⟨w.heap.size + 1, 3, none⟩ = some (.int .i64 qy) := (cell_of_blk hr7 3).1
      have k4 : w7.cell? ⟨w.heap.size + 1, 4, none⟩ = some (.int .i64 qn) := (cell_of_blk hr7 4).1
      clear hr7 r0 r1 r2 r3 r4 s0 s1 s2 s3 s4 y0 y1 y2 y3 y4
      refine bodyPost_ret (v := .agg #[.slice QA ops.length qc, .int .i64 qk, .int .i64 qa, .int .i64 qy, .int .i64 qn]) (by simp [results, Try.results78, go_sem, k0, k1, k2, k3, k4]; try rfl) rfl ?_
      rw [← HPO.out]
      refine ⟨QA, qc, n, f, ?_, own_more hG7.row (by omega), hG7.gr, hG7.fo⟩
      show _ = Ending.returned (.agg #[.slice QA l.length qc, .int .i64 qk, .int .i64 qa, .int .i64 qy, .int .i64 qn])
      rw [hlen]
end Go.Proofs.Ytiaimceefkdchaa
/- Contract of fold.Fold. No condition but those that each theorem names. -/
namespace Go.Proofs.Ytiaimceefkdchaa
open Go.RowKit Go.Maps
set_option linter.unusedVariables false
theorem MapAt.of_block {w w' : World} {b n : Nat} {f : Int → Option Int} (h : MapAt w b n f) (he : ∀ x, w.heap[b]? = some x → w'.heap[b]? = some x) : MapAt w' b n f := by
  obtain ⟨D, ⟨es, c, hb, rest⟩, hg⟩ := h
  exact ⟨D, ⟨es, c, he _ hb, rest⟩, hg⟩
theorem BlksAt.map {w w' : World} {B : Nat} {v : Value} {bs : List Blk} {ovs : List Value} (h : BlksAt w B v bs ovs) {b n : Nat} {f : Int → Option Int} (hm : MapAt w b n f) (hg : w.grownBy w' (some b)) : BlksAt w' B v bs ovs :=
  ⟨h.len, h.row.kept hg (own_not_map h.row hm), fun i ov bk h1 h2 => ⟨(h.ops i ov bk h1 h2).1.kept hg (own_not_map (h.ops i ov bk h1 h2).1 hm), (h.ops i ov bk h1 h2).2⟩⟩
set_option maxRecDepth 100000 in
set_option maxHeartbeats 4000000 in
theorem fold_Fold_bad (p : Ir) (av bv : Value) (hf : p.fine) (he : irErr p ≠ 0) (w : World) (hI : IrRep w w.heap.size p av bv) :
    Calls Try.prog 47 #[irVal p av bv] w (PassPost irZero (irErr p) w) := by
  have HC := Lib.hid (fun W h => ir_Check p av bv hf W h)
  have HI := Lib.hid hI
  have q : (irErr p != 0) = true := by rw [bne_iff_ne]; exact he
  unfold irVal at *
  generalize irErr p = fe at *
  have hx0 := alloc_last _ _ (alloc_size w (.cells #[.int .i64 p.temps, av, bv, .int .i64 p.inp, .int .i64 p.out] 25) rfl) (.cells #[.int .i64 0, .slice none 0 0, .slice none 0 0, .int .i64 0, .int .i64 0] 25)
  have hb1 := bal (bnew w (.cells #[.int .i64 p.temps, av, bv, .int .i64 p.inp, .int .i64 p.out] 25)) (.cells #[.int .i64 0, .slice none 0 0, .slice none 0 0, .int .i64 0, .int .i64 0] 25)
  clear hI he hf
  go_enter Try.func47, Try.ntmps47
  go_wp2_with fail
  refine (HC.out _ (HI.out.next hb1)).mono ?_
  rintro e w2 ⟨rfl, hb2⟩
  have hx := (hb2.block _ (lt_of_blk hx0)).trans hx0
  have HB := Lib.hid (bch hb1 hb2)
  obtain ⟨r0, s0⟩ := cell_of_blk hx 0
  obtain ⟨r1, s1⟩ := cell_of_blk hx 1
  obtain ⟨r2, s2⟩ := cell_of_blk hx 2
  obtain ⟨r3, s3⟩ := cell_of_blk hx 3
  obtain ⟨r4, s4⟩ := cell_of_blk hx 4
  clear hx0 hb1 hb2
  go_wp2_with fail
  have hr7 := blk_set (blk_set (blk_set (blk_set (blk_set hx 0 (.int .i64 0)) 1 (.slice none 0 0)) 2 (.slice none 0 0)) 3 (.int .i64 0)) 4 (.int .i64 0)
  have hB7 := ((((HB.out.setCell (p := ⟨w.heap.size + 1, 0, none⟩) (by show w.heap.size ≤ w.heap.size + 1; omega) (.int .i64 0)).setCell (p := ⟨w.heap.size + 1, 1, none⟩) (by show w.heap.size ≤ w.heap.size + 1; omega) (.slice none 0 0)).setCell (p := ⟨w.heap.size + 1, 2, none⟩) (by show w.heap.size ≤ w.heap.size + 1; omega) (.slice none 0 0)).setCell (p := ⟨w.heap.size + 1, 3, none⟩) (by show w.heap.size ≤ w.heap.size + 1; omega) (.int .i64 0)).setCell (p := ⟨w.heap.size + 1, 4, none⟩) (by show w.heap.size ≤ w.heap.size + 1; omega) (.int .i64 0)
  generalize ((((w2.setCell ⟨w.heap.size + 1, 0, none⟩ (.int .i64 0)).setCell ⟨w.heap.size + 1, 1, none⟩ (.slice none 0 0)).setCell ⟨w.heap.size + 1, 2, none⟩ (.slice none 0 0)).setCell ⟨w.heap.size + 1, 3, none⟩ (.int .i64 0)).setCell ⟨w.heap.size + 1, 4, none⟩ (.int .i64 0) = w7 at *
  have k0 : w7.cell? ⟨w.heap.size + 1, 0, none⟩ = some (.int .i64 0) := (cell_of_blk hr7 0).1
  have k1 : w7.cell? ⟨w.heap.size + 1, 1, none⟩ = some (.slice none 0 0) := (cell_of_blk hr7 1).1
  have k2 : w7.cell? ⟨w.heap.size + 1, 2, none⟩ = some (.slice none 0 0) := (cell_of_blk hr7 2).1
  have k3 : w7.cell? ⟨w.heap.size + 1, 3, none⟩ = some (.int .i64 0) := (cell_of_blk hr7 3).1
  have k4 : w7.cell? ⟨w.heap.size + 1, 4, none⟩ = some (.int .i64 0) := (cell_of_blk hr7 4).1
  clear hr7 hx r0 r1 r2 r3 r4 s0 s1 s2 s3 s4
  refine bodyPost_ret (by simp [results, Try.results47, go_sem, k0, k1, k2, k3, k4]; try rfl) rfl ?_
  exact ⟨none, 0, none, 0, rfl, ⟨SlRep.nil_ _ _, SlRep.nil_ _ _⟩, hB7⟩
set_option maxRecDepth 100000 in
set_option maxHeartbeats 8000000 in
theorem fold_Fold (p : Ir) (av bv : Value) (hf : p.fine) (he : irErr p = 0) (w : World) (hI : IrRep w w.heap.size p av bv) :
    Calls Try.prog 47 #[irVal p av bv] w (PassPost (fdIr p) 0 w) := by
  have HC := Lib.hid (fun W h => ir_Check p av bv hf W h)
  rw [he] at HC
  obtain ⟨hng, hm⟩ := irErr_ok he
  unfold greatP at hng
  have hrs := railSum_nonneg p.arrays
  have hn1 : p.arrays.length ≤ 1048576 := by omega
  have hn2 : p.blocks.length ≤ 1048576 := by omega
  have HOPS : Hid (∀ k, k < p.blocks.length → (p.blocks.getD k blkNone).ops.length ≤ 1048576) := Lib.hid (fun k hk => by
    have h1 := opsSum_step p.blocks k hk
    have h2 := opsSum_take p.blocks (k + 1)
    omega)
  have HFB : Hid (∀ b ∈ p.blocks, b.fine) := Lib.hid hf.2.2.2.2.2.2
  have HQB : Hid (∀ b ∈ p.blocks, (fdBlk b).fine) := Lib.hid (fun b hb => (fd_fine he hf).2.2.2.2.2.2 _ (List.mem_map_of_mem hb))
  have hmm := @run_makeMap Try.prog
  obtain ⟨AA, ac, rfl, hac⟩ := hI.1.form
  obtain ⟨BA, bc, rfl, hbc⟩ := hI.2.form
  have HI := Lib.hid hI
  unfold irVal at *
  obtain ⟨hx0, hx1⟩ : ((w.alloc (.cells #[.int .i64 p.temps, (.slice AA p.arrays.length ac), .slice BA p.blocks.length bc, .int .i64 p.inp, .int .i64 p.out] 25)).alloc (.cells #[.int .i64 0, .slice none 0 0, .slice none 0 0, .int .i64 0, .int .i64 0] 25)).heap[w.heap.size]? = some (.cells #[.int .i64 p.temps, (.slice AA p.arrays.length ac), .slice BA p.blocks.length bc, .int .i64 p.inp, .int .i64 p.out] 25 (0, 0)) ∧
      ((w.alloc (.cells #[.int .i64 p.temps, (.slice AA p.arrays.length ac), .slice BA p.blocks.length bc, .int .i64 p.inp, .int .i64 p.out] 25)).alloc (.cells #[.int .i64 0, .slice none 0 0, .slice none 0 0, .int .i64 0, .int .i64 0] 25)).heap[w.heap.size + 1]? = some (.cells #[.int .i64 0, .slice none 0 0, .slice none 0 0, .int .i64 0, .int .i64 0] 25 (0, 0)) := by
    have e := alloc_size w (.cells #[.int .i64 p.temps, (.slice AA p.arrays.length ac), .slice BA p.blocks.length bc, .int .i64 p.inp, .int .i64 p.out] 25) rfl
    exact ⟨alloc_old (alloc_last w _ rfl _) _, alloc_last _ _ e _⟩
  have hz1 : ((w.alloc (.cells #[.int .i64 p.temps, (.slice AA p.arrays.length ac), .slice BA p.blocks.length bc, .int .i64 p.inp, .int .i64 p.out] 25)).alloc (.cells #[.int .i64 0, .slice none 0 0, .slice none 0 0, .int .i64 0, .int .i64 0] 25)).heap.size = w.heap.size + 1 + 1 := alloc_size _ _ (alloc_size w _ rfl)
  have hb1 := bal (bnew w (.cells #[.int .i64 p.temps, (.slice AA p.arrays.length ac), .slice BA p.blocks.length bc, .int .i64 p.inp, .int .i64 p.out] 25)) (.cells #[.int .i64 0, .slice none 0 0, .slice none 0 0, .int .i64 0, .int .i64 0] 25)
  generalize hPO : PassPost (fdIr p) 0 w = PO
  have HPO := Lib.hid hPO
  clear hng hrs hI hm he hf hPO
  go_enter Try.func47, Try.ntmps47
  go_wp2_with fail
  generalize (w.alloc (.cells #[.int .i64 p.temps, (.slice AA p.arrays.length ac), .slice BA p.blocks.length bc, .int .i64 p.inp, .int .i64 p.out] 25)).alloc (.cells #[.int .i64 0, .slice none 0 0, .slice none 0 0, .int .i64 0, .int .i64 0] 25) = w0 at *
  refine (HC.out _ (HI.out.next hb1)).mono ?_
  rintro e w1 ⟨rfl, hb2⟩
  have HX0 := Lib.hid ((hb2.block _ (lt_of_blk hx0)).trans hx0)
  have HX1 := Lib.hid ((hb2.block _ (lt_of_blk hx1)).trans hx1)
  have HZ1 : Hid (w.heap.size + 1 + 1 ≤ w1.heap.size) := Lib.hid (by have := hb2.size; omega)
  have HB1 := Lib.hid (bch hb1 hb2)
  have HRA := Lib.hid ((HI.out.next hb1).next hb2).1
  have HRB := Lib.hid HI.out.2
  clear hx0 hx1 hz1 hb1 hb2
  obtain ⟨c0, c1, c2, c3, c4, f2⟩ := ir_cells_at HX0.out
  go_upto_region 5 with (fail)
  clear c0 c1 c2 c3 c4 f2
  have hm1 := map_made w1
  have hs1 := alloc_size w1 (.map #[] 0) rfl
  have hbb := bal (bnew w1 (.map #[] 0)) (.cells #[.map (some w1.heap.size)] 102)
  have HFO : Hid (FoAt ((w1.alloc (.map #[] 0)).alloc (.cells #[.map (some w1.heap.size)] 102)) (w1.heap.size + 1) w1.heap.size 0 (fun _ => none)) := Lib.hid ⟨alloc_last _ _ hs1 _, hm1.below (bnew _ _)⟩
  have HSB : Hid (((w1.alloc (.map #[] 0)).alloc (.cells #[.map (some w1.heap.size)] 102)).heap.size = w1.heap.size + 1 + 1) := Lib.hid (alloc_size _ _ hs1)
  have HBB := Lib.hid hbb
  have HX00 := HX0
  have HX11 := HX1
  have HX0 := Lib.hid ((hbb.block _ (lt_of_blk HX0.out)).trans HX0.out)
  have HX1 := Lib.hid ((hbb.block _ (lt_of_blk HX1.out)).trans HX1.out)
  clear hm1 hs1 hbb
  generalize (w1.alloc (.map #[] 0)).alloc (.cells #[.map (some w1.heap.size)] 102) = wb at *
  obtain ⟨c0, c1, c2, c3, c4, f2⟩ := ir_cells_at HX0.out
  go_wp2_with fail
  clear c0 c1 c2 c3 c4 f2
  go_loopw [6, 21] (fun vl vi wr => ∃ (k : Nat) (ovs : List Value), k ≤ p.blocks.length ∧ vi = .int .i64 k ∧ BlksAt wr wb.heap.size vl ((p.blocks.take k).map fdBlk) ovs ∧ Below w1.heap.size w1 wr ∧ wb.heap.size ≤ wr.heap.size ∧ ∃ (n : Nat) (f : Int → Option Int), FoAt wr (w1.heap.size + 1) w1.heap.size n f) (fun _ vi _ => p.blocks.length - (intOf vi).toNat)
  case atStart => exact ⟨0, [], Nat.zero_le _, rfl, BlksAt.nil_ _ _, HBB.out, Nat.le_refl _, 0, _, HFO.out⟩
  case round =>
    obtain ⟨k, ovs, hk, rfl, hBA, hBW, hws, mn, mf, hFO⟩ := hrel
    have HFW := Lib.hid hFO
    have HWS := Lib.hid hws
    have hX0b := lt_of_blk HX0.out
    clear hFO hws hX0b
    have HBA := Lib.hid hBA
    have HBW := Lib.hid hBW
    have hz1 := HZ1.out
    have hxr := (hBW.block w.heap.size (by omega)).trans HX00.out
    have HXR := Lib.hid hxr
    obtain ⟨LA, lc, rfl⟩ := ownN_len hBA.row
    clear hBA hBW hxr
    by_cases hlt : k < p.blocks.length
    · obtain ⟨b, off, rfl, hb0, OA, oc, hops, hoc, x0, x1, x2, x3, x4⟩ := blk_at HRB.out k hlt
      have hbw := HB1.out.trans (HBW.out.mono HB1.out.size)
      have hcw : ∀ o, wr.cell? ⟨b, o, none⟩ = w.cell? ⟨b, o, none⟩ := fun o => hbw.cell (p := ⟨b, o, none⟩) hb0
      rw [← hcw] at x0 x1 x2 x3 x4
      have hops1 := HOPS.out k hlt
      have hfb := HFB.out _ (getD_memI p.blocks k blkNone hlt)
      have hqb := HQB.out _ (getD_memI p.blocks k blkNone hlt)
      have HTK := Lib.hid (map_take_succ fdBlk p.blocks k blkNone hlt)
      have hopsw := hops.below hbw (Nat.le_refl _)
      have hlo := fdList_len (p.blocks.getD k blkNone).ops
      generalize p.blocks.getD k blkNone = bk at *
      have HBL := Lib.hid (fun W h1 h2 => fold_block (w1.heap.size + 1) w1.heap.size mn mf OA oc bk hfb hqb hops1 W h1 h2)
      obtain ⟨ops, trm⟩ := bk
      obtain ⟨tk, ta, ty, tn⟩ := trm
      simp only at hops hoc x0 x1 x2 x3 x4 hops1 HBL hopsw hlo
      have k0 : (0 : Int) ≤ (k : Int) := by omega
      have k1 : (k : Int) < (p.blocks.length : Int) := by omega
      have hbA := bnew wr (.cells #[.slice OA ops.length oc, .int .i64 tk, .int .i64 ta, .int .i64 ty, .int .i64 tn] 55)
      have HbA := Lib.hid hbA
      have HOA := Lib.hid ((hopsw.below (B := w.heap.size) (C := w.heap.size) ((HbA.out.mono hbw.size)) (Nat.le_refl _)))
      have HSW := Lib.hid hbw.size
      have HQ : Hid (fdBlk ⟨ops, tk, ta, ty, tn⟩ = ⟨(fdList ops).2, fdTrm (fdList ops).1 ⟨tk, ta, ty, tn⟩⟩) := Lib.hid rfl
      generalize fdBlk ⟨ops, tk, ta, ty, tn⟩ = q at *
      unfold FbPost at HBL
      have hlo2 : q.ops.length = ops.length := by rw [HQ.out]; exact hlo
      have HFA := Lib.hid (HFW.out.below HbA.out)
      clear hcw hbw hbA hops hopsw hlo HQ hqb hfb
      obtain ⟨qops, qk, qa, qy, qn⟩ := q
      simp only at HBL hlo2
      go_wp2_with fail
      refine (HBL.out _ HFA.out (HOA.out.keep (by have := HbA.out.size; have := HSW.out; omega) (fun _ _ => rfl))).mono ?_
      rintro e w3 ⟨QA, qc, mn', mf', rfl, hqo, hg3, hfo3⟩
      clear x0 x1 x2 x3 x4
      have hBv := (HBA.out.below HbA.out).map HFA.out.mp hg3
      have hlk : ((p.blocks.take k).map fdBlk).length = k := by simp; omega
      have hszq := HBW.out.size
      have hszv := hg3.size
      have hszA := HbA.out.size
      have hwsz := HWS.out
      have hsb := HSB.out
      have hB3 : Below w1.heap.size w1 w3 := (HBW.out.trans (HbA.out.mono hszq)).grown hg3 (by omega) (fun r hr => by injection hr with hr; omega)
      obtain ⟨v', w9, hrun, g1', g2', _, _, gk⟩ := hBv.push hqo (by omega) (fun r hr => by
        intro e9
        have h1 := (hqo.lt r hr).1
        have h2 := (HBA.out.row.lt r e9).2
        omega) (by omega) (by rw [hlk]; omega) ⟨qk, qa, qy, qn⟩
      rw [hlk, hlo2] at hrun
      have HRUN := Lib.hid hrun
      have HG1 := Lib.hid g1'
      have HG2 := Lib.hid (g2' hB3 (by omega))
      have HG4 : Hid (wb.heap.size ≤ w9.heap.size) := Lib.hid (by have := (g2' (Below.refl w3.heap.size w3 |>.mono (show wb.heap.size ≤ w3.heap.size by omega)) (Nat.le_refl _)).size; omega)
      have hvn : ∀ g, g < wb.heap.size → (Value.slice LA ((p.blocks.take k).map fdBlk).length lc).ownBlock ≠ some g := fun g hg e => by have := (hBv.row.lt g e).1; omega
      have HG5 : Hid (FoAt w9 (w1.heap.size + 1) w1.heap.size mn' mf') := Lib.hid ⟨gk hfo3.box (hvn _ (by omega)), hfo3.mp.of_block (fun x hx => gk hx (hvn _ (by omega)))⟩
      clear hrun g1' g2' gk hBv hqo hg3 hfo3 hvn hB3 hlk hszq hszv hszA hwsz hsb
      go_wp2_with (at_builtin; refine wpList_app rfl (.tmp 25) (.tmp 29) 23 rfl HRUN.out rfl rfl ?_)
      go_roundw
      case rel => exact ⟨k + 1, _, by omega, by go_num, by rw [HTK.out]; exact HG1.out, HG2.out, HG4.out, _, _, HG5.out⟩
      case measure => simp [intOf]; omega
    · obtain rfl : k = p.blocks.length := by omega
      have hBF := HBA.out
      rw [List.take_length] at hBF
      have hlb : (p.blocks.map fdBlk).length = p.blocks.length := List.length_map ..
      have hLA : BlksAt wr wb.heap.size (.slice LA p.blocks.length lc) (p.blocks.map fdBlk) ovs := by
        have h := hBF; simp only [List.length_map] at h; exact h
      have hxf := blk_set HXR.out 2 (.slice LA p.blocks.length lc)
      have hr1 := (HBW.out.block _ (lt_of_blk HX11.out)).trans HX11.out
      have hwsz := HWS.out
      have hsb := HSB.out
      have hr5 := blk_far hr1 ⟨w.heap.size, 2, none⟩ (.slice LA p.blocks.length lc) (by show w.heap.size ≠ w.heap.size + 1; omega)
      have hB5 := ((HB1.out.trans (HBW.out.mono HB1.out.size)).setCell (p := ⟨w.heap.size, 2, none⟩) (Nat.le_refl _) (.slice LA p.blocks.length lc))
      have hlow : ∀ i, (⟨w.heap.size, i, none⟩ : Addr).block < wb.heap.size := fun i => by show w.heap.size < _; omega
      have hbl5 := hLA.setLow ⟨w.heap.size, 2, none⟩ (.slice LA p.blocks.length lc) (hlow 2)
      have hse : (wr.setCell ⟨w.heap.size, 2, none⟩ (.slice LA p.blocks.length lc)).heap.size = wr.heap.size := by simp [World.setCell]
      have hra5 : SlRep arrEnc (wr.setCell ⟨w.heap.size, 2, none⟩ (.slice LA p.blocks.length lc)) w.heap.size (.slice AA p.arrays.length ac) p.arrays := HI.out.1.below hB5 (Nat.le_refl _)
      obtain ⟨c0, c1, c2, c3, c4, f2⟩ := ir_cells_at HXR.out
      obtain ⟨g0, g1, g2, g3, g4, g5⟩ := ir_cells_at hxf
      have f1 := (cell_of_blk hxf 1).2
      have HXF := Lib.hid hxf
      have HR5 := Lib.hid hr5
      have HB5 := Lib.hid hB5
      have HBL5 := Lib.hid hbl5
      have HRA5 := Lib.hid hra5
      have HSE := Lib.hid hse
      clear hxf hr1 hr5 hB5 hbl5 hra5 hBF hLA hse
      go_upto_region 12 with (fail)
      clear c0 c1 c2 c3 c4 f2
      generalize wr.setCell ⟨w.heap.size, 2, none⟩ (.slice LA p.blocks.length lc) = w5 at *
      obtain ⟨NA, nc, w6, hrun, how, hb6⟩ := run_copy_arr w5 AA ac w.heap.size p.arrays HRA5.out hn1
      have HRUN := Lib.hid hrun
      have hx6 := (hb6.block _ (lt_of_blk HXF.out)).trans HXF.out
      have hr6 := (hb6.block _ (lt_of_blk HR5.out)).trans HR5.out
      have hB6 := HB5.out.trans (hb6.mono HB5.out.size)
      have hbl6 := HBL5.out.below hb6
      have hx7 := blk_set hx6 1 (.slice NA p.arrays.length nc)
      have hr7 := blk_far hr6 ⟨w.heap.size, 1, none⟩ (.slice NA p.arrays.length nc) (by show w.heap.size ≠ w.heap.size + 1; omega)
      have hB7 := hB6.setCell (p := ⟨w.heap.size, 1, none⟩) (Nat.le_refl _) (.slice NA p.arrays.length nc)
      have hbl7 := hbl6.setLow ⟨w.heap.size, 1, none⟩ (.slice NA p.arrays.length nc) (hlow 1)
      have how7 := own_setCell how ⟨w.heap.size, 1, none⟩ (.slice NA p.arrays.length nc) (by show w.heap.size < w5.heap.size; have := HB5.out.size; have := HSE.out; have := HBW.out.size; omega)
      obtain ⟨h0, h1, h2, h3, h4, h5⟩ := ir_cells_at hx6
      have h6 := (cell_of_blk hx6 1).2
      obtain ⟨j0, j1, j2, j3, j4, j5⟩ := ir_cells_at hx7
      obtain ⟨r0, s0⟩ := cell_of_blk hr7 0
      obtain ⟨r1, s1⟩ := cell_of_blk hr7 1
      obtain ⟨r2, s2⟩ := cell_of_blk hr7 2
      obtain ⟨r3, s3⟩ := cell_of_blk hr7 3
      obtain ⟨r4, s4⟩ := cell_of_blk hr7 4
      have HX7 := Lib.hid hx7
      have HR7 := Lib.hid hr7
      have HB7 := Lib.hid hB7
      have HBL7 := Lib.hid hbl7
      have HOW7 := Lib.hid how7
      clear hrun hx6 hr6 hB6 hbl6 hx7 hr7 hB7 hbl7 how7 how hb6
      go_upto_region 13 with ((at_builtin; refine wpList_app rfl (.const (.slice none 0 0)) (.tmp 35) 22 rfl HRUN.out rfl rfl ?_))
      clear g0 g1 g2 g3 g4 g5 f1 h0 h1 h2 h3 h4 h5 h6
      generalize w6.setCell ⟨w.heap.size, 1, none⟩ (.slice NA p.arrays.length nc) = w7 at *
      go_wp2_with fail
      have hr8 := blk_set (blk_set (blk_set (blk_set (blk_set HR7.out 0 (.int .i64 p.temps)) 1 (.slice NA p.arrays.length nc)) 2 (.slice LA p.blocks.length lc)) 3 (.int .i64 p.inp)) 4 (.int .i64 p.out)
      have hB8 := ((((HB7.out.setCell (p := ⟨w.heap.size + 1, 0, none⟩) (by show w.heap.size ≤ w.heap.size + 1; omega) (.int .i64 p.temps)).setCell (p := ⟨w.heap.size + 1, 1, none⟩) (by show w.heap.size ≤ w.heap.size + 1; omega) (.slice NA p.arrays.length nc)).setCell (p := ⟨w.heap.size + 1, 2, none⟩) (by show w.heap.size ≤ w.heap.size + 1; omega) (.slice LA p.blocks.length lc)).setCell (p := ⟨w.heap.size + 1, 3, none⟩) (by show w.heap.size ≤ w.heap.size + 1; omega) (.int .i64 p.inp)).setCell (p := ⟨w.heap.size + 1, 4, none⟩) (by show w.heap.size ≤ w.heap.size + 1; omega) (.int .i64 p.out)
      have hlow2 : w.heap.size + 1 < wb.heap.size := by omega
      have hl8 := ((((HBL7.out.setLow ⟨w.heap.size + 1, 0, none⟩ (.int .i64 p.temps) hlow2).setLow ⟨w.heap.size + 1, 1, none⟩ (.slice NA p.arrays.length nc) hlow2).setLow ⟨w.heap.size + 1, 2, none⟩ (.slice LA p.blocks.length lc) hlow2).setLow ⟨w.heap.size + 1, 3, none⟩ (.int .i64 p.inp) hlow2).setLow ⟨w.heap.size + 1, 4, none⟩ (.int .i64 p.out) hlow2
      have hlow5 : w.heap.size + 1 < w5.heap.size := by have := HSE.out; have := HBW.out.size; omega
      have ho8 := own_setCell (own_setCell (own_setCell (own_setCell (own_setCell HOW7.out ⟨w.heap.size + 1, 0, none⟩ (.int .i64 p.temps) hlow5) ⟨w.heap.size + 1, 1, none⟩ (.slice NA p.arrays.length nc) hlow5) ⟨w.heap.size + 1, 2, none⟩ (.slice LA p.blocks.length lc) hlow5) ⟨w.heap.size + 1, 3, none⟩ (.int .i64 p.inp) hlow5) ⟨w.heap.size + 1, 4, none⟩ (.int .i64 p.out) hlow5
      generalize ((((w7.setCell ⟨w.heap.size + 1, 0, none⟩ (.int .i64 p.temps)).setCell ⟨w.heap.size + 1, 1, none⟩ (.slice NA p.arrays.length nc)).setCell ⟨w.heap.size + 1, 2, none⟩ (.slice LA p.blocks.length lc)).setCell ⟨w.heap.size + 1, 3, none⟩ (.int .i64 p.inp)).setCell ⟨w.heap.size + 1, 4, none⟩ (.int .i64 p.out) = w8 at *
      have k0 : w8.cell? ⟨w.heap.size + 1, 0, none⟩ = some (.int .i64 p.temps) := (cell_of_blk hr8 0).1
      have k1 : w8.cell? ⟨w.heap.size + 1, 1, none⟩ = some (.slice NA p.arrays.length nc) := (cell_of_blk hr8 1).1
      have k2 : w8.cell? ⟨w.heap.size + 1, 2, none⟩ = some (.slice LA p.blocks.length lc) := (cell_of_blk hr8 2).1
      have k3 : w8.cell? ⟨w.heap.size + 1, 3, none⟩ = some (.int .i64 p.inp) := (cell_of_blk hr8 3).1
      have k4 : w8.cell? ⟨w.heap.size + 1, 4, none⟩ = some (.int .i64 p.out) := (cell_of_blk hr8 4).1
      clear hr8 r0 r1 r2 r3 r4 s0 s1 s2 s3 s4 j0 j1 j2 j3 j4 j5
      refine bodyPost_ret (by simp [results, Try.results47, go_sem, k0, k1, k2, k3, k4]; try rfl) rfl ?_
      rw [← HPO.out]
      have hrb := hl8.rep
      have hra := slRep_arrs (Nat.le_refl _) ho8
      have hfin : IrRep w8 w8.heap.size (fdIr p) (.slice NA p.arrays.length nc) (.slice LA p.blocks.length lc) := ⟨hra, hrb⟩
      refine ⟨NA, nc, LA, lc, ?_, ?_, hB8⟩
      · show _ = Ending.returned (.tuple #[.agg #[.int .i64 p.temps, .slice NA p.arrays.length nc, .slice LA (p.blocks.map fdBlk).length lc, .int .i64 p.inp, .int .i64 p.out], .int .i64 0])
        rw [hlb]
      · show IrRep w8 w8.heap.size (fdIr p) (.slice NA p.arrays.length nc) (.slice LA (p.blocks.map fdBlk).length lc)
        rw [hlb]; exact hfin
end Go.Proofs.Ytiaimceefkdchaa
/- Contracts of hauberklaw19.few and lives. No condition but those that each theorem names. -/
namespace Go.Proofs.Ytiaimceefkdchaa
open Go.RowKit
set_option linter.unusedVariables false
def FewPost19 (w : World) (e : Ending) (w' : World) : Prop := (∃ b : Bool, e = .returned (.bool b)) ∧ Below w.heap.size w w'
set_option maxRecDepth 100000 in
set_option maxHeartbeats 4000000 in
theorem law19_few (p : Ir) (av bv : Value) (hf : p.fine) (w : World) (hI : IrRep w w.heap.size p av bv) :
    Calls Try.prog 45 #[irVal p av bv] w (FewPost19 w) := by
  obtain ⟨_, _, _, _, hnb, _, hfb⟩ := hf
  obtain ⟨BA, bc, rfl, hbc⟩ := hI.2.form
  have HB := Lib.hid hI.2
  unfold irVal
  have HX := Lib.hid (heap_alloc_new w (.cells #[.int .i64 p.temps, av, .slice BA p.blocks.length bc, .int .i64 p.inp, .int .i64 p.out] 25))
  have HB1 := Lib.hid (bnew w (.cells #[.int .i64 p.temps, av, .slice BA p.blocks.length bc, .int .i64 p.inp, .int .i64 p.out] 25))
  have HLN : Hid (∀ k, k < p.blocks.length → (p.blocks.getD k blkNone).ops.length ≤ 4398046511104) := Lib.hid (fun k hk => (hfb _ (getD_memI p.blocks k blkNone hk)).1)
  clear hI hfb
  go_enter Try.func45, Try.ntmps45
  go_wp2_with fail
  generalize w.alloc (.cells #[.int .i64 p.temps, av, .slice BA p.blocks.length bc, .int .i64 p.inp, .int .i64 p.out] 25) = w1 at *
  have x2 := (cell_of_blk HX.out 2).1
  have hx2 : w1.cell? ⟨w.heap.size, 2, none⟩ = some (.slice BA p.blocks.length bc) := x2
  clear x2
  go_loop [3, 4] (fun vn vi => ∃ (k : Nat) (n : Int), k ≤ p.blocks.length ∧ 0 ≤ n ∧ n ≤ 8001 ∧ vn = .int .i64 n ∧ vi = .int .i64 k) (fun _ vi => p.blocks.length - (intOf vi).toNat)
  case atStart => exact ⟨0, 0, Nat.zero_le _, by omega, by omega, rfl, rfl⟩
  case round =>
    obtain ⟨k, n, hk, hn0, hn1, rfl, rfl⟩ := hrel
    by_cases hlt : k < p.blocks.length
    · by_cases hn : n ≤ 3000
      · obtain ⟨b, off, rfl, hb0, OA, oc, hops, hoc, x0, x1, x2, x3, x4⟩ := blk_at (HB.out.below HB1.out (Nat.le_refl _)) k hlt
        have hl := HLN.out k hlt
        generalize (p.blocks.getD k blkNone).ops.length = m at *
        have k0 : (0 : Int) ≤ (k : Int) := by omega
        have k1 : (k : Int) < (p.blocks.length : Int) := by omega
        clear hops x1 x2 x3 x4
        go_wp2_with fail
        all_goals
          go_round
          case rel => exact ⟨k + 1, _, by omega, by omega, by omega, rfl, by go_num⟩
          case measure => simp [intOf]; omega
      · have hn2 : 3000 < n := by omega
        clear hn
        go_wp2_with fail
        go_ret
        exact (show FewPost19 w _ _ from ⟨⟨_, rfl⟩, HB1.out⟩)
    · obtain rfl : k = p.blocks.length := by omega
      go_wp2_with fail
      all_goals
        go_ret
        exact (show FewPost19 w _ _ from ⟨⟨_, rfl⟩, HB1.out⟩)
def ex19 : Ir := ⟨3, [], [⟨[⟨1, 0, 0, 0, 0, 2⟩, ⟨1, 1, 0, 0, 0, 3⟩, ⟨5, 2, 0, 1, 0, 0⟩], ⟨3, 0, 0, 0⟩⟩], 0, 0⟩
theorem ex19_err : irErr ex19 = 0 := by decide
theorem ex19_fine : ex19.fine := fine_noarr ex19_err rfl
theorem ex19_cp : fdIr ex19 = ⟨3, [], [⟨[⟨1, 0, 0, 0, 0, 2⟩, ⟨1, 1, 0, 0, 0, 3⟩, ⟨1, 2, 0, 0, 0, 6⟩], ⟨3, 0, 0, 0⟩⟩], 0, 0⟩ := by kernel_rfl
set_option maxRecDepth 100000 in
set_option maxHeartbeats 4000000 in
theorem law19_lives (w : World) : Calls Try.prog 46 #[] w fun e w' => e = .returned (.bool true) ∧ Below w.heap.size w w' := by
  have HCP := Lib.hid (fun av bv W h => fold_Fold ex19 av bv ex19_fine ex19_err W h)
  rw [ex19_cp] at HCP
  unfold irVal PassPost ex19 at HCP
  have hI : IrRep (((w.alloc (.cells #[.int .i64 1, .int .i64 0, .int .i64 0, .int .i64 0, .int .i64 0, .int .i64 2, .int .i64 1, .int .i64 1, .int .i64 0, .int .i64 0, .int .i64 0, .int .i64 3, .int .i64 5, .int .i64 2, .int .i64 0, .int .i64 1, .int .i64 0, .int .i64 0] 58)).alloc (.cells #[.slice (some ⟨w.heap.size, 0, none⟩) 3 3, .int .i64 3, .int .i64 0, .int .i64 0, .int .i64 0] 55)).alloc (.cells #[.int .i64 3, .slice none 0 0, .slice (some ⟨w.heap.size + 1, 0, none⟩) 1 1, .int .i64 0, .int .i64 0] 25)) (((w.alloc (.cells #[.int .i64 1, .int .i64 0, .int .i64 0, .int .i64 0, .int .i64 0, .int .i64 2, .int .i64 1, .int .i64 1, .int .i64 0, .int .i64 0, .int .i64 0, .int .i64 3, .int .i64 5, .int .i64 2, .int .i64 0, .int .i64 1, .int .i64 0, .int .i64 0] 58)).alloc (.cells #[.slice (some ⟨w.heap.size, 0, none⟩) 3 3, .int .i64 3, .int .i64 0, .int .i64 0, .int .i64 0] 55)).alloc (.cells #[.int .i64 3, .slice none 0 0, .slice (some ⟨w.heap.size + 1, 0, none⟩) 1 1, .int .i64 0, .int .i64 0] 25)).heap.size ex19 (.slice none 0 0) (.slice (some ⟨w.heap.size + 1, 0, none⟩) 1 1) := live_one w [⟨1, 0, 0, 0, 0, 2⟩, ⟨1, 1, 0, 0, 0, 3⟩, ⟨5, 2, 0, 1, 0, 0⟩] ⟨3, 0, 0, 0⟩ 3
  have hBl : Below w.heap.size w (((w.alloc (.cells #[.int .i64 1, .int .i64 0, .int .i64 0, .int .i64 0, .int .i64 0, .int .i64 2, .int .i64 1, .int .i64 1, .int .i64 0, .int .i64 0, .int .i64 0, .int .i64 3, .int .i64 5, .int .i64 2, .int .i64 0, .int .i64 1, .int .i64 0, .int .i64 0] 58)).alloc (.cells #[.slice (some ⟨w.heap.size, 0, none⟩) 3 3, .int .i64 3, .int .i64 0, .int .i64 0, .int .i64 0] 55)).alloc (.cells #[.int .i64 3, .slice none 0 0, .slice (some ⟨w.heap.size + 1, 0, none⟩) 1 1, .int .i64 0, .int .i64 0] 25)) := bal (bal (bnew w _) _) _
  unfold ex19 at hI
  go_enter Try.func46, Try.ntmps46
  go_wp2_with fail
  generalize ((w.alloc (.cells #[.int .i64 1, .int .i64 0, .int .i64 0, .int .i64 0, .int .i64 0, .int .i64 2, .int .i64 1, .int .i64 1, .int .i64 0, .int .i64 0, .int .i64 0, .int .i64 3, .int .i64 5, .int .i64 2, .int .i64 0, .int .i64 1, .int .i64 0, .int .i64 0] 58)).alloc (.cells #[.slice (some ⟨w.heap.size, 0, none⟩) 3 3, .int .i64 3, .int .i64 0, .int .i64 0, .int .i64 0] 55)).alloc (.cells #[.int .i64 3, .slice none 0 0, .slice (some ⟨w.heap.size + 1, 0, none⟩) 1 1, .int .i64 0, .int .i64 0] 25) = w3 at *
  have HBL := Lib.hid hBl
  refine (HCP.out _ _ _ hI).mono ?_
  rintro e w4 ⟨A, ac, C, bc, rfl, ⟨_, hIb⟩, hb4⟩
  obtain ⟨b, off, rfl, hb0, OA, oc, hops, hoc, y0, _, _, _, _⟩ := blk_known hIb 0 _ rfl
  obtain ⟨b2, off2, rfl, hb2, z0, z1, z2, z3, z4, z5⟩ := op_known hops 2 _ rfl
  simp only [Nat.zero_mul, Nat.add_zero, List.length_cons, List.length_nil] at y0 z0 z1 z2 z3 z4 z5
  have HB4 := Lib.hid (bch HBL.out hb4)
  have bx := fun (q : Addr) (hq : q.block < w4.heap.size) => (bnew w4 (.cells #[.int .i64 3, .slice A 0 ac, .slice (some ⟨b, off, none⟩) 1 bc, .int .i64 0, .int .i64 0] 25)).cell hq
  rw [← bx _ hb0] at y0
  rw [← bx _ hb2] at z0 z1 z2 z3 z4 z5
  clear hI hBl hIb hb4 bx hops
  go_wp2_with fail
  go_ret
  exact ⟨rfl, bal HB4.out _⟩
end Go.Proofs.Ytiaimceefkdchaa
