/- Parts of a proof. No condition but those that each theorem names. -/
import Derived.WalkKit
import Derived.OpenShut
import Derived.Below
import Derived.Lib.Hide
import Derived.Laws.OwnMore
import Derived.Deep.QuietTactic
import Derived.Deep.AppendLies
import Derived.ProofKit
import Derived.SizedLaws
import Derived.Test.YthkobddggoojlaaProg
import Derived.Handy
import Derived.Deep.RegionHeld3
import Derived.BigQuiet
import Derived.Maps.AppendAt
import Derived.StillTailTactics
import Derived.Laws.CopyOwn
import Derived.Lib.BufferWrite
import Derived.OrdersHeld
import Derived.RegionTactic
import Derived.Test.YthkobddggoojlaaTeG0e0
import Derived.Test.YthkobddggoojlaaTeG0e1
import Derived.Test.YthkobddggoojlaaTeG0e2
import Derived.Test.YthkobddggoojlaaTeG0e4
import Derived.Test.YthkobddggoojlaaTeG0e14
import Derived.Test.YthkobddggoojlaaTeG1e15
import Derived.Test.YthkobddggoojlaaTeG0e11
import Derived.Test.YthkobddggoojlaaTeG1e5
namespace Go.Proofs.Ythkobddggoojlaa
open Go.RowKit
set_option linter.unusedVariables false
set_option maxHeartbeats 8000000 in
set_option maxRecDepth 100000 in
theorem ref_op_r0 (p : Ir) (AA : Option Addr) (ac : Nat) (bv : Value) (k d a b c i : Int) (L : ByteArray) (fd s1 s2 s3 : Bool) (qL : (L == ⟨#[]⟩) = false) (qL2 : (L.toList == ByteArray.toList ⟨#[]⟩) = false) (qL3 : (L.toList == []) = false) (Lsz : L.size ≤ 1000000) (h100 : hasC L 100 = fd) (h97 : hasC L 97 = s1) (h98 : hasC L 98 = s2) (h99 : hasC L 99 = s3) (g0 : decide (fieldP p fd d) = true) (g1 : decide (fieldP p s1 a) = true) (g2 : decide (fieldP p s2 b) = true) (g3 : decide (fieldP p s3 c) = true) (hi : 0 ≤ i) (hil : (p.arrays.length : Int) ≤ i) (q110 : hasC L 110 = false) (q115 : hasC L 115 = false) (q114 : hasC L 114 = true) (hLT : ∀ W, Calls Try.prog 54 #[.int .i64 k] W fun e w' => e = .returned (.string L) ∧ Below W.heap.size W w') (w : World) :
    Calls Try.prog 39 #[.agg #[.int .i64 p.temps, .slice AA p.arrays.length ac, bv, .int .i64 p.inp, .int .i64 p.out], .agg #[.int .i64 k, .int .i64 d, .int .i64 a, .int .i64 b, .int .i64 c, .int .i64 i]] w fun e w' => e = .returned (.bool false) ∧ Below w.heap.size w w' := by
  have hq110 := fun W => ref_has L 110 Lsz W
  rw [q110] at hq110
  have HQ110 := Lib.hid hq110
  clear hq110 q110
  have hq115 := fun W => ref_has L 115 Lsz W
  rw [q115] at hq115
  have HQ115 := Lib.hid hq115
  clear hq115 q115
  have hq114 := fun W => ref_has L 114 Lsz W
  rw [q114] at hq114
  have HQ114 := Lib.hid hq114
  clear hq114 q114
  have HLT := Lib.hid hLT
  have hh0 := fun W => ref_has L 100 Lsz W
  rw [h100] at hh0
  have HH0 := Lib.hid hh0
  have hf0 := fun W => ref_field p (.slice AA p.arrays.length ac) bv fd d W
  rw [g0] at hf0
  unfold irVal at hf0
  have HF0 := Lib.hid hf0
  clear hh0 hf0 h100 g0
  have hh1 := fun W => ref_has L 97 Lsz W
  rw [h97] at hh1
  have HH1 := Lib.hid hh1
  have hf1 := fun W => ref_field p (.slice AA p.arrays.length ac) bv s1 a W
  rw [g1] at hf1
  unfold irVal at hf1
  have HF1 := Lib.hid hf1
  clear hh1 hf1 h97 g1
  have hh2 := fun W => ref_has L 98 Lsz W
  rw [h98] at hh2
  have HH2 := Lib.hid hh2
  have hf2 := fun W => ref_field p (.slice AA p.arrays.length ac) bv s2 b W
  rw [g2] at hf2
  unfold irVal at hf2
  have HF2 := Lib.hid hf2
  clear hh2 hf2 h98 g2
  have hh3 := fun W => ref_has L 99 Lsz W
  rw [h99] at hh3
  have HH3 := Lib.hid hh3
  have hf3 := fun W => ref_field p (.slice AA p.arrays.length ac) bv s3 c W
  rw [g3] at hf3
  unfold irVal at hf3
  have HF3 := Lib.hid hf3
  clear hh3 hf3 h99 g3
  clear hLT Lsz
  go_enter Try.func39, Try.ntmps39
  go_wp2_with fail
  refine (HLT.out _).mono ?_
  rintro e w2 ⟨rfl, hb⟩
  have hxp := (hb.block w.heap.size (by first | (simp; done) | (simp; omega))).trans (((bnew (w.alloc (.cells #[.int .i64 p.temps, .slice AA p.arrays.length ac, bv, .int .i64 p.inp, .int .i64 p.out] 25)) _).block w.heap.size (by simp)).trans (heap_alloc_new w _))
  have hxo := (hb.block (w.heap.size + 1) (by simp)).trans (alloc_new2 w _ _)
  have HXP := Lib.hid hxp
  have HXO := Lib.hid hxo
  have HBW := Lib.hid (bch (bal (bnew _ _) _) hb)
  clear hb hxp hxo
  go_wp2_with fail
  refine wp_region_L (fun w' => Below w2.heap.size w2 w') 99 (by kernel_rfl) ?_
  have hS0 : Below w2.heap.size w2 w2.drew := Below.drew (Below.refl _ _)
  refine wpAnyL_take (i := 0) (some 9) (.string L) rfl rfl (by kernel_rfl) (by kernel_rfl) (by kernel_rfl) (by kernel_rfl) (fun _ _ _ h => h) (by rfl) ?hvx10_0 hS0 ?restx10_0
  case hvx10_0 =>
    intro wz hSz
    go_simp
  try simp only [Act.put, List.setIfInBounds_toArray, List.set_cons_zero, List.set_cons_succ]
  refine wpAnyL_take (i := 1) (some 10) (.bool false) rfl rfl (by kernel_rfl) (by kernel_rfl) (by kernel_rfl) (by kernel_rfl) (fun _ _ _ h => h) (by rfl) ?hvx10_1 hS0 ?restx10_1
  case hvx10_1 =>
    intro wz hSz
    go_simp
  try simp only [Act.put, List.setIfInBounds_toArray, List.set_cons_zero, List.set_cons_succ]
  refine wpAnyL_take (i := 2) (some 11) (.bool false) rfl rfl (by kernel_rfl) (by kernel_rfl) (by kernel_rfl) (by kernel_rfl) (fun _ _ _ h => h) (by rfl) ?hvx10_2 hS0 ?restx10_2
  case hvx10_2 =>
    intro wz hSz
    go_simp
  try simp only [Act.put, List.setIfInBounds_toArray, List.set_cons_zero, List.set_cons_succ]
  refine wpAnyL_take (i := 3) (some 12) (.agg #[.int .i64 p.temps, .slice AA p.arrays.length ac, bv, .int .i64 p.inp, .int .i64 p.out]) rfl rfl (by kernel_rfl) (by kernel_rfl) (by kernel_rfl) (by kernel_rfl) (fun _ _ _ h => h) (by rfl) ?hvx10_3 hS0 ?restx10_3
  case hvx10_3 =>
    intro wz hSz
    obtain ⟨z0, z1, z2, z3, z4, _⟩ := ir_cells_at ((hSz.block _ (lt_of_blk HXP.out)).trans HXP.out)
    go_simp
  try simp only [Act.put, List.setIfInBounds_toArray, List.set_cons_zero, List.set_cons_succ]
  refine wpAnyL_take (i := 4) (some 13) (.string L) rfl rfl (by kernel_rfl) (by kernel_rfl) (by kernel_rfl) (by kernel_rfl) (fun _ _ _ h => h) (by rfl) ?hvx10_4 hS0 ?restx10_4
  case hvx10_4 =>
    intro wz hSz
    go_simp
  try simp only [Act.put, List.setIfInBounds_toArray, List.set_cons_zero, List.set_cons_succ]
  refine wpAnyL_take (i := 6) (some 15) (.pointer (some ⟨w.heap.size + 1, 1, none⟩)) rfl rfl (by kernel_rfl) (by kernel_rfl) (by kernel_rfl) (by kernel_rfl) (fun _ _ _ h => h) (by rfl) ?hvx10_6 hS0 ?restx10_6
  case hvx10_6 =>
    intro wz hSz
    go_simp
  try simp only [Act.put, List.setIfInBounds_toArray, List.set_cons_zero, List.set_cons_succ]
  refine wpAnyL_take (i := 7) (some 16) (.int .i64 d) rfl rfl (by kernel_rfl) (by kernel_rfl) (by kernel_rfl) (by kernel_rfl) (fun _ _ _ h => h) (by rfl) ?hvx10_7 hS0 ?restx10_7
  case hvx10_7 =>
    intro wz hSz
    obtain ⟨y0, y1, y2, y3, y4, y5, _, _, _, _⟩ := op_cells_at ((hSz.block _ (lt_of_blk HXO.out)).trans HXO.out)
    go_simp
  try simp only [Act.put, List.setIfInBounds_toArray, List.set_cons_zero, List.set_cons_succ]
  refine wpAnyL_one (i := 5) (by kernel_rfl) rfl ?_
  intro K hK
  rw [if_pos (by rfl)]
  go_simp
  refine (HH0.out _).mono ?_
  rintro e w' ⟨rfl, rfl⟩
  refine hK.out _ _ (fun _ => hS0) ?_
  clear hK
  try simp only [Act.put, List.setIfInBounds_toArray, List.set_cons_zero, List.set_cons_succ]
  refine wpAnyL_one (i := 8) (by kernel_rfl) rfl ?_
  intro K hK
  rw [if_pos (by rfl)]
  go_simp
  refine (HF0.out _).mono ?_
  rintro e wc1 ⟨rfl, hb⟩
  have hS1 := bch hS0 hb
  refine hK.out _ _ (fun _ => hS1) ?_
  clear hK hb
  try simp only [Act.put, List.setIfInBounds_toArray, List.set_cons_zero, List.set_cons_succ]
  refine wpAnyL_take (i := 9) (some 18) (.bool false) rfl rfl (by kernel_rfl) (by kernel_rfl) (by kernel_rfl) (by kernel_rfl) (fun _ _ _ h => h) (by rfl) ?hvx10_9 hS1 ?restx10_9
  case hvx10_9 =>
    intro wz hSz
    go_simp
  try simp only [Act.put, List.setIfInBounds_toArray, List.set_cons_zero, List.set_cons_succ]
  refine wpAnyL_take (i := 10) (some 19) (.bool false) rfl rfl (by kernel_rfl) (by kernel_rfl) (by kernel_rfl) (by kernel_rfl) (fun _ _ _ h => h) (by rfl) ?hvx10_10 hS1 ?restx10_10
  case hvx10_10 =>
    intro wz hSz
    go_simp
  try simp only [Act.put, List.setIfInBounds_toArray, List.set_cons_zero, List.set_cons_succ]
  refine wpAnyL_take (i := 11) (some 20) (.bool false) rfl rfl (by kernel_rfl) (by kernel_rfl) (by kernel_rfl) (by kernel_rfl) (fun _ _ _ h => h) (by rfl) ?hvx10_11 hS1 ?restx10_11
  case hvx10_11 =>
    intro wz hSz
    go_simp
  try simp only [Act.put, List.setIfInBounds_toArray, List.set_cons_zero, List.set_cons_succ]
  refine wpAnyL_take (i := 12) (some 21) (.agg #[.int .i64 p.temps, .slice AA p.arrays.length ac, bv, .int .i64 p.inp, .int .i64 p.out]) rfl rfl (by kernel_rfl) (by kernel_rfl) (by kernel_rfl) (by kernel_rfl) (fun _ _ _ h => h) (by rfl) ?hvx10_12 hS1 ?restx10_12
  case hvx10_12 =>
    intro wz hSz
    obtain ⟨z0, z1, z2, z3, z4, _⟩ := ir_cells_at ((hSz.block _ (lt_of_blk HXP.out)).trans HXP.out)
    go_simp
  try simp only [Act.put, List.setIfInBounds_toArray, List.set_cons_zero, List.set_cons_succ]
  refine wpAnyL_take (i := 13) (some 22) (.string L) rfl rfl (by kernel_rfl) (by kernel_rfl) (by kernel_rfl) (by kernel_rfl) (fun _ _ _ h => h) (by rfl) ?hvx10_13 hS1 ?restx10_13
  case hvx10_13 =>
    intro wz hSz
    go_simp
  try simp only [Act.put, List.setIfInBounds_toArray, List.set_cons_zero, List.set_cons_succ]
  refine wpAnyL_take (i := 15) (some 24) (.pointer (some ⟨w.heap.size + 1, 2, none⟩)) rfl rfl (by kernel_rfl) (by kernel_rfl) (by kernel_rfl) (by kernel_rfl) (fun _ _ _ h => h) (by rfl) ?hvx10_15 hS1 ?restx10_15
  case hvx10_15 =>
    intro wz hSz
    go_simp
  try simp only [Act.put, List.setIfInBounds_toArray, List.set_cons_zero, List.set_cons_succ]
  refine wpAnyL_take (i := 16) (some 25) (.int .i64 a) rfl rfl (by kernel_rfl) (by kernel_rfl) (by kernel_rfl) (by kernel_rfl) (fun _ _ _ h => h) (by rfl) ?hvx10_16 hS1 ?restx10_16
  case hvx10_16 =>
    intro wz hSz
    obtain ⟨y0, y1, y2, y3, y4, y5, _, _, _, _⟩ := op_cells_at ((hSz.block _ (lt_of_blk HXO.out)).trans HXO.out)
    go_simp
  try simp only [Act.put, List.setIfInBounds_toArray, List.set_cons_zero, List.set_cons_succ]
  refine wpAnyL_one (i := 14) (by kernel_rfl) rfl ?_
  intro K hK
  rw [if_pos (by rfl)]
  go_simp
  refine (HH1.out _).mono ?_
  rintro e w' ⟨rfl, rfl⟩
  refine hK.out _ _ (fun _ => hS1) ?_
  clear hK
  try simp only [Act.put, List.setIfInBounds_toArray, List.set_cons_zero, List.set_cons_succ]
  refine wpAnyL_one (i := 17) (by kernel_rfl) rfl ?_
  intro K hK
  rw [if_pos (by rfl)]
  go_simp
  refine (HF1.out _).mono ?_
  rintro e wc2 ⟨rfl, hb⟩
  have hS2 := bch hS1 hb
  refine hK.out _ _ (fun _ => hS2) ?_
  clear hK hb
  try simp only [Act.put, List.setIfInBounds_toArray, List.set_cons_zero, List.set_cons_succ]
  refine wpAnyL_take (i := 18) (some 27) (.bool false) rfl rfl (by kernel_rfl) (by kernel_rfl) (by kernel_rfl) (by kernel_rfl) (fun _ _ _ h => h) (by rfl) ?hvx10_18 hS2 ?restx10_18
  case hvx10_18 =>
    intro wz hSz
    go_simp
  try simp only [Act.put, List.setIfInBounds_toArray, List.set_cons_zero, List.set_cons_succ]
  refine wpAnyL_take (i := 19) (some 28) (.bool false) rfl rfl (by kernel_rfl) (by kernel_rfl) (by kernel_rfl) (by kernel_rfl) (fun _ _ _ h => h) (by rfl) ?hvx10_19 hS2 ?restx10_19
  case hvx10_19 =>
    intro wz hSz
    go_simp
  try simp only [Act.put, List.setIfInBounds_toArray, List.set_cons_zero, List.set_cons_succ]
  refine wpAnyL_take (i := 20) (some 29) (.bool false) rfl rfl (by kernel_rfl) (by kernel_rfl) (by kernel_rfl) (by kernel_rfl) (fun _ _ _ h => h) (by rfl) ?hvx10_20 hS2 ?restx10_20
  case hvx10_20 =>
    intro wz hSz
    go_simp
  try simp only [Act.put, List.setIfInBounds_toArray, List.set_cons_zero, List.set_cons_succ]
  refine wpAnyL_take (i := 21) (some 30) (.agg #[.int .i64 p.temps, .slice AA p.arrays.length ac, bv, .int .i64 p.inp, .int .i64 p.out]) rfl rfl (by kernel_rfl) (by kernel_rfl) (by kernel_rfl) (by kernel_rfl) (fun _ _ _ h => h) (by rfl) ?hvx10_21 hS2 ?restx10_21
  case hvx10_21 =>
    intro wz hSz
    obtain ⟨z0, z1, z2, z3, z4, _⟩ := ir_cells_at ((hSz.block _ (lt_of_blk HXP.out)).trans HXP.out)
    go_simp
  try simp only [Act.put, List.setIfInBounds_toArray, List.set_cons_zero, List.set_cons_succ]
  refine wpAnyL_take (i := 22) (some 31) (.string L) rfl rfl (by kernel_rfl) (by kernel_rfl) (by kernel_rfl) (by kernel_rfl) (fun _ _ _ h => h) (by rfl) ?hvx10_22 hS2 ?restx10_22
  case hvx10_22 =>
    intro wz hSz
    go_simp
  try simp only [Act.put, List.setIfInBounds_toArray, List.set_cons_zero, List.set_cons_succ]
  refine wpAnyL_take (i := 24) (some 33) (.pointer (some ⟨w.heap.size + 1, 3, none⟩)) rfl rfl (by kernel_rfl) (by kernel_rfl) (by kernel_rfl) (by kernel_rfl) (fun _ _ _ h => h) (by rfl) ?hvx10_24 hS2 ?restx10_24
  case hvx10_24 =>
    intro wz hSz
    go_simp
  try simp only [Act.put, List.setIfInBounds_toArray, List.set_cons_zero, List.set_cons_succ]
  refine wpAnyL_take (i := 25) (some 34) (.int .i64 b) rfl rfl (by kernel_rfl) (by kernel_rfl) (by kernel_rfl) (by kernel_rfl) (fun _ _ _ h => h) (by rfl) ?hvx10_25 hS2 ?restx10_25
  case hvx10_25 =>
    intro wz hSz
    obtain ⟨y0, y1, y2, y3, y4, y5, _, _, _, _⟩ := op_cells_at ((hSz.block _ (lt_of_blk HXO.out)).trans HXO.out)
    go_simp
  try simp only [Act.put, List.setIfInBounds_toArray, List.set_cons_zero, List.set_cons_succ]
  refine wpAnyL_one (i := 23) (by kernel_rfl) rfl ?_
  intro K hK
  rw [if_pos (by rfl)]
  go_simp
  refine (HH2.out _).mono ?_
  rintro e w' ⟨rfl, rfl⟩
  refine hK.out _ _ (fun _ => hS2) ?_
  clear hK
  try simp only [Act.put, List.setIfInBounds_toArray, List.set_cons_zero, List.set_cons_succ]
  refine wpAnyL_one (i := 26) (by kernel_rfl) rfl ?_
  intro K hK
  rw [if_pos (by rfl)]
  go_simp
  refine (HF2.out _).mono ?_
  rintro e wc3 ⟨rfl, hb⟩
  have hS3 := bch hS2 hb
  refine hK.out _ _ (fun _ => hS3) ?_
  clear hK hb
  try simp only [Act.put, List.setIfInBounds_toArray, List.set_cons_zero, List.set_cons_succ]
  refine wpAnyL_take (i := 27) (some 36) (.bool false) rfl rfl (by kernel_rfl) (by kernel_rfl) (by kernel_rfl) (by kernel_rfl) (fun _ _ _ h => h) (by rfl) ?hvx10_27 hS3 ?restx10_27
  case hvx10_27 =>
    intro wz hSz
    go_simp
  try simp only [Act.put, List.setIfInBounds_toArray, List.set_cons_zero, List.set_cons_succ]
  refine wpAnyL_take (i := 28) (some 37) (.bool false) rfl rfl (by kernel_rfl) (by kernel_rfl) (by kernel_rfl) (by kernel_rfl) (fun _ _ _ h => h) (by rfl) ?hvx10_28 hS3 ?restx10_28
  case hvx10_28 =>
    intro wz hSz
    go_simp
  try simp only [Act.put, List.setIfInBounds_toArray, List.set_cons_zero, List.set_cons_succ]
  refine wpAnyL_take (i := 29) (some 38) (.bool false) rfl rfl (by kernel_rfl) (by kernel_rfl) (by kernel_rfl) (by kernel_rfl) (fun _ _ _ h => h) (by rfl) ?hvx10_29 hS3 ?restx10_29
  case hvx10_29 =>
    intro wz hSz
    go_simp
  try simp only [Act.put, List.setIfInBounds_toArray, List.set_cons_zero, List.set_cons_succ]
  refine wpAnyL_take (i := 30) (some 39) (.agg #[.int .i64 p.temps, .slice AA p.arrays.length ac, bv, .int .i64 p.inp, .int .i64 p.out]) rfl rfl (by kernel_rfl) (by kernel_rfl) (by kernel_rfl) (by kernel_rfl) (fun _ _ _ h => h) (by rfl) ?hvx10_30 hS3 ?restx10_30
  case hvx10_30 =>
    intro wz hSz
    obtain ⟨z0, z1, z2, z3, z4, _⟩ := ir_cells_at ((hSz.block _ (lt_of_blk HXP.out)).trans HXP.out)
    go_simp
  try simp only [Act.put, List.setIfInBounds_toArray, List.set_cons_zero, List.set_cons_succ]
  refine wpAnyL_take (i := 31) (some 40) (.string L) rfl rfl (by kernel_rfl) (by kernel_rfl) (by kernel_rfl) (by kernel_rfl) (fun _ _ _ h => h) (by rfl) ?hvx10_31 hS3 ?restx10_31
  case hvx10_31 =>
    intro wz hSz
    go_simp
  try simp only [Act.put, List.setIfInBounds_toArray, List.set_cons_zero, List.set_cons_succ]
  refine wpAnyL_take (i := 33) (some 42) (.pointer (some ⟨w.heap.size + 1, 4, none⟩)) rfl rfl (by kernel_rfl) (by kernel_rfl) (by kernel_rfl) (by kernel_rfl) (fun _ _ _ h => h) (by rfl) ?hvx10_33 hS3 ?restx10_33
  case hvx10_33 =>
    intro wz hSz
    go_simp
  try simp only [Act.put, List.setIfInBounds_toArray, List.set_cons_zero, List.set_cons_succ]
  refine wpAnyL_take (i := 34) (some 43) (.int .i64 c) rfl rfl (by kernel_rfl) (by kernel_rfl) (by kernel_rfl) (by kernel_rfl) (fun _ _ _ h => h) (by rfl) ?hvx10_34 hS3 ?restx10_34
  case hvx10_34 =>
    intro wz hSz
    obtain ⟨y0, y1, y2, y3, y4, y5, _, _, _, _⟩ := op_cells_at ((hSz.block _ (lt_of_blk HXO.out)).trans HXO.out)
    go_simp
  try simp only [Act.put, List.setIfInBounds_toArray, List.set_cons_zero, List.set_cons_succ]
  refine wpAnyL_one (i := 32) (by kernel_rfl) rfl ?_
  intro K hK
  rw [if_pos (by rfl)]
  go_simp
  refine (HH3.out _).mono ?_
  rintro e w' ⟨rfl, rfl⟩
  refine hK.out _ _ (fun _ => hS3) ?_
  clear hK
  try simp only [Act.put, List.setIfInBounds_toArray, List.set_cons_zero, List.set_cons_succ]
  refine wpAnyL_one (i := 35) (by kernel_rfl) rfl ?_
  intro K hK
  rw [if_pos (by rfl)]
  go_simp
  refine (HF3.out _).mono ?_
  rintro e wc4 ⟨rfl, hb⟩
  have hS4 := bch hS3 hb
  refine hK.out _ _ (fun _ => hS4) ?_
  clear hK hb
  try simp only [Act.put, List.setIfInBounds_toArray, List.set_cons_zero, List.set_cons_succ]
  refine wpAnyL_take (i := 36) (some 45) (.bool false) rfl rfl (by kernel_rfl) (by kernel_rfl) (by kernel_rfl) (by kernel_rfl) (fun _ _ _ h => h) (by rfl) ?hvx10_36 hS4 ?restx10_36
  case hvx10_36 =>
    intro wz hSz
    go_simp
  try simp only [Act.put, List.setIfInBounds_toArray, List.set_cons_zero, List.set_cons_succ]
  refine wpAnyL_take (i := 37) (some 46) (.bool false) rfl rfl (by kernel_rfl) (by kernel_rfl) (by kernel_rfl) (by kernel_rfl) (fun _ _ _ h => h) (by rfl) ?hvx10_37 hS4 ?restx10_37
  case hvx10_37 =>
    intro wz hSz
    go_simp
  try simp only [Act.put, List.setIfInBounds_toArray, List.set_cons_zero, List.set_cons_succ]
  refine wpAnyL_take (i := 38) (some 47) (.bool false) rfl rfl (by kernel_rfl) (by kernel_rfl) (by kernel_rfl) (by kernel_rfl) (fun _ _ _ h => h) (by rfl) ?hvx10_38 hS4 ?restx10_38
  case hvx10_38 =>
    intro wz hSz
    go_simp
  try simp only [Act.put, List.setIfInBounds_toArray, List.set_cons_zero, List.set_cons_succ]
  refine wpAnyL_take (i := 39) (some 48) (.pointer (some ⟨w.heap.size + 1, 5, none⟩)) rfl rfl (by kernel_rfl) (by kernel_rfl) (by kernel_rfl) (by kernel_rfl) (fun _ _ _ h => h) (by rfl) ?hvx10_39 hS4 ?restx10_39
  case hvx10_39 =>
    intro wz hSz
    go_simp
  try simp only [Act.put, List.setIfInBounds_toArray, List.set_cons_zero, List.set_cons_succ]
  refine wpAnyL_take (i := 40) (some 49) (.int .i64 i) rfl rfl (by kernel_rfl) (by kernel_rfl) (by kernel_rfl) (by kernel_rfl) (fun _ _ _ h => h) (by rfl) ?hvx10_40 hS4 ?restx10_40
  case hvx10_40 =>
    intro wz hSz
    obtain ⟨y0, y1, y2, y3, y4, y5, _, _, _, _⟩ := op_cells_at ((hSz.block _ (lt_of_blk HXO.out)).trans HXO.out)
    go_simp
  try simp only [Act.put, List.setIfInBounds_toArray, List.set_cons_zero, List.set_cons_succ]
  refine wpAnyL_take (i := 41) (some 50) (.bool false) rfl rfl (by kernel_rfl) (by kernel_rfl) (by kernel_rfl) (by kernel_rfl) (fun _ _ _ h => h) (by rfl) ?hvx10_41 hS4 ?restx10_41
  case hvx10_41 =>
    intro wz hSz
    go_simp
  try simp only [Act.put, List.setIfInBounds_toArray, List.set_cons_zero, List.set_cons_succ]
  refine wpAnyL_take (i := 42) (some 51) (.bool false) rfl rfl (by kernel_rfl) (by kernel_rfl) (by kernel_rfl) (by kernel_rfl) (fun _ _ _ h => h) (by rfl) ?hvx10_42 hS4 ?restx10_42
  case hvx10_42 =>
    intro wz hSz
    go_simp
  try simp only [Act.put, List.setIfInBounds_toArray, List.set_cons_zero, List.set_cons_succ]
  refine wpAnyL_done (by kernel_rfl) ?_ _
  have HSW := Lib.hid hS4
  obtain ⟨y0, y1, y2, y3, y4, y5, _, _, _, _⟩ := op_cells_at ((hS4.block _ (lt_of_blk HXO.out)).trans HXO.out)
  obtain ⟨z0, z1, z2, z3, z4, _⟩ := ir_cells_at ((hS4.block _ (lt_of_blk HXP.out)).trans HXP.out)
  go_wp2_with fail
  refine (HQ110.out _).mono ?_
  rintro e w' ⟨rfl, rfl⟩
  go_wp2_with fail
  refine (HQ115.out _).mono ?_
  rintro e w' ⟨rfl, rfl⟩
  go_wp2_with fail
  refine (HQ114.out _).mono ?_
  rintro e w' ⟨rfl, rfl⟩
  go_wp2_with fail
  go_ret
  exact ⟨rfl, bch HBW.out HSW.out⟩
set_option maxHeartbeats 8000000 in
set_option maxRecDepth 100000 in
theorem ref_op_r18 (p : Ir) (AA : Option Addr) (ac : Nat) (bv : Value) (k d a b c i : Int) (L : ByteArray) (fd s1 s2 s3 : Bool) (qL : (L == ⟨#[]⟩) = false) (qL2 : (L.toList == ByteArray.toList ⟨#[]⟩) = false) (qL3 : (L.toList == []) = false) (Lsz : L.size ≤ 1000000) (h100 : hasC L 100 = fd) (h97 : hasC L 97 = s1) (h98 : hasC L 98 = s2) (h99 : hasC L 99 = s3) (g0 : decide (fieldP p fd d) = true) (g1 : decide (fieldP p s1 a) = true) (g2 : decide (fieldP p s2 b) = true) (g3 : decide (fieldP p s3 c) = true) (hi : 0 ≤ i) (hil : i < (p.arrays.length : Int)) (q18 : (k == 18) = true) (q110 : hasC L 110 = false) (q115 : hasC L 115 = false) (q114 : hasC L 114 = true) (hLT : ∀ W, Calls Try.prog 54 #[.int .i64 k] W fun e w' => e = .returned (.string L) ∧ Below W.heap.size W w') (w : World) :
    Calls Try.prog 39 #[.agg #[.int .i64 p.temps, .slice AA p.arrays.length ac, bv, .int .i64 p.inp, .int .i64 p.out], .agg #[.int .i64 k, .int .i64 d, .int .i64 a, .int .i64 b, .int .i64 c, .int .i64 i]] w fun e w' => e = .returned (.bool true) ∧ Below w.heap.size w w' := by
  have hq110 := fun W => ref_has L 110 Lsz W
  rw [q110] at hq110
  have HQ110 := Lib.hid hq110
  clear hq110 q110
  have hq115 := fun W => ref_has L 115 Lsz W
  rw [q115] at hq115
  have HQ115 := Lib.hid hq115
  clear hq115 q115
  have hq114 := fun W => ref_has L 114 Lsz W
  rw [q114] at hq114
  have HQ114 := Lib.hid hq114
  clear hq114 q114
  have HLT := Lib.hid hLT
  have hh0 := fun W => ref_has L 100 Lsz W
  rw [h100] at hh0
  have HH0 := Lib.hid hh0
  have hf0 := fun W => ref_field p (.slice AA p.arrays.length ac) bv fd d W
  rw [g0] at hf0
  unfold irVal at hf0
  have HF0 := Lib.hid hf0
  clear hh0 hf0 h100 g0
  have hh1 := fun W => ref_has L 97 Lsz W
  rw [h97] at hh1
  have HH1 := Lib.hid hh1
  have hf1 := fun W => ref_field p (.slice AA p.arrays.length ac) bv s1 a W
  rw [g1] at hf1
  unfold irVal at hf1
  have HF1 := Lib.hid hf1
  clear hh1 hf1 h97 g1
  have hh2 := fun W => ref_has L 98 Lsz W
  rw [h98] at hh2
  have HH2 := Lib.hid hh2
  have hf2 := fun W => ref_field p (.slice AA p.arrays.length ac) bv s2 b W
  rw [g2] at hf2
  unfold irVal at hf2
  have HF2 := Lib.hid hf2
  clear hh2 hf2 h98 g2
  have hh3 := fun W => ref_has L 99 Lsz W
  rw [h99] at hh3
  have HH3 := Lib.hid hh3
  have hf3 := fun W => ref_field p (.slice AA p.arrays.length ac) bv s3 c W
  rw [g3] at hf3
  unfold irVal at hf3
  have HF3 := Lib.hid hf3
  clear hh3 hf3 h99 g3
  clear hLT Lsz
  go_enter Try.func39, Try.ntmps39
  go_wp2_with fail
  refine (HLT.out _).mono ?_
  rintro e w2 ⟨rfl, hb⟩
  have hxp := (hb.block w.heap.size (by first | (simp; done) | (simp; omega))).trans (((bnew (w.alloc (.cells #[.int .i64 p.temps, .slice AA p.arrays.length ac, bv, .int .i64 p.inp, .int .i64 p.out] 25)) _).block w.heap.size (by simp)).trans (heap_alloc_new w _))
  have hxo := (hb.block (w.heap.size + 1) (by simp)).trans (alloc_new2 w _ _)
  have HXP := Lib.hid hxp
  have HXO := Lib.hid hxo
  have HBW := Lib.hid (bch (bal (bnew _ _) _) hb)
  clear hb hxp hxo
  go_wp2_with fail
  refine wp_region_L (fun w' => Below w2.heap.size w2 w') 99 (by kernel_rfl) ?_
  have hS0 : Below w2.heap.size w2 w2.drew := Below.drew (Below.refl _ _)
  refine wpAnyL_take (i := 0) (some 9) (.string L) rfl rfl (by kernel_rfl) (by kernel_rfl) (by kernel_rfl) (by kernel_rfl) (fun _ _ _ h => h) (by rfl) ?hvx11_0 hS0 ?restx11_0
  case hvx11_0 =>
    intro wz hSz
    go_simp
  try simp only [Act.put, List.setIfInBounds_toArray, List.set_cons_zero, List.set_cons_succ]
  refine wpAnyL_take (i := 1) (some 10) (.bool false) rfl rfl (by kernel_rfl) (by kernel_rfl) (by kernel_rfl) (by kernel_rfl) (fun _ _ _ h => h) (by rfl) ?hvx11_1 hS0 ?restx11_1
  case hvx11_1 =>
    intro wz hSz
    go_simp
  try simp only [Act.put, List.setIfInBounds_toArray, List.set_cons_zero, List.set_cons_succ]
  refine wpAnyL_take (i := 2) (some 11) (.bool false) rfl rfl (by kernel_rfl) (by kernel_rfl) (by kernel_rfl) (by kernel_rfl) (fun _ _ _ h => h) (by rfl) ?hvx11_2 hS0 ?restx11_2
  case hvx11_2 =>
    intro wz hSz
    go_simp
  try simp only [Act.put, List.setIfInBounds_toArray, List.set_cons_zero, List.set_cons_succ]
  refine wpAnyL_take (i := 3) (some 12) (.agg #[.int .i64 p.temps, .slice AA p.arrays.length ac, bv, .int .i64 p.inp, .int .i64 p.out]) rfl rfl (by kernel_rfl) (by kernel_rfl) (by kernel_rfl) (by kernel_rfl) (fun _ _ _ h => h) (by rfl) ?hvx11_3 hS0 ?restx11_3
  case hvx11_3 =>
    intro wz hSz
    obtain ⟨z0, z1, z2, z3, z4, _⟩ := ir_cells_at ((hSz.block _ (lt_of_blk HXP.out)).trans HXP.out)
    go_simp
  try simp only [Act.put, List.setIfInBounds_toArray, List.set_cons_zero, List.set_cons_succ]
  refine wpAnyL_take (i := 4) (some 13) (.string L) rfl rfl (by kernel_rfl) (by kernel_rfl) (by kernel_rfl) (by kernel_rfl) (fun _ _ _ h => h) (by rfl) ?hvx11_4 hS0 ?restx11_4
  case hvx11_4 =>
    intro wz hSz
    go_simp
  try simp only [Act.put, List.setIfInBounds_toArray, List.set_cons_zero, List.set_cons_succ]
  refine wpAnyL_take (i := 6) (some 15) (.pointer (some ⟨w.heap.size + 1, 1, none⟩)) rfl rfl (by kernel_rfl) (by kernel_rfl) (by kernel_rfl) (by kernel_rfl) (fun _ _ _ h => h) (by rfl) ?hvx11_6 hS0 ?restx11_6
  case hvx11_6 =>
    intro wz hSz
    go_simp
  try simp only [Act.put, List.setIfInBounds_toArray, List.set_cons_zero, List.set_cons_succ]
  refine wpAnyL_take (i := 7) (some 16) (.int .i64 d) rfl rfl (by kernel_rfl) (by kernel_rfl) (by kernel_rfl) (by kernel_rfl) (fun _ _ _ h => h) (by rfl) ?hvx11_7 hS0 ?restx11_7
  case hvx11_7 =>
    intro wz hSz
    obtain ⟨y0, y1, y2, y3, y4, y5, _, _, _, _⟩ := op_cells_at ((hSz.block _ (lt_of_blk HXO.out)).trans HXO.out)
    go_simp
  try simp only [Act.put, List.setIfInBounds_toArray, List.set_cons_zero, List.set_cons_succ]
  refine wpAnyL_one (i := 5) (by kernel_rfl) rfl ?_
  intro K hK
  rw [if_pos (by rfl)]
  go_simp
  refine (HH0.out _).mono ?_
  rintro e w' ⟨rfl, rfl⟩
  refine hK.out _ _ (fun _ => hS0) ?_
  clear hK
  try simp only [Act.put, List.setIfInBounds_toArray, List.set_cons_zero, List.set_cons_succ]
  refine wpAnyL_one (i := 8) (by kernel_rfl) rfl ?_
  intro K hK
  rw [if_pos (by rfl)]
  go_simp
  refine (HF0.out _).mono ?_
  rintro e wc1 ⟨rfl, hb⟩
  have hS1 := bch hS0 hb
  refine hK.out _ _ (fun _ => hS1) ?_
  clear hK hb
  try simp only [Act.put, List.setIfInBounds_toArray, List.set_cons_zero, List.set_cons_succ]
  refine wpAnyL_take (i := 9) (some 18) (.bool false) rfl rfl (by kernel_rfl) (by kernel_rfl) (by kernel_rfl) (by kernel_rfl) (fun _ _ _ h => h) (by rfl) ?hvx11_9 hS1 ?restx11_9
  case hvx11_9 =>
    intro wz hSz
    go_simp
  try simp only [Act.put, List.setIfInBounds_toArray, List.set_cons_zero, List.set_cons_succ]
  refine wpAnyL_take (i := 10) (some 19) (.bool false) rfl rfl (by kernel_rfl) (by kernel_rfl) (by kernel_rfl) (by kernel_rfl) (fun _ _ _ h => h) (by rfl) ?hvx11_10 hS1 ?restx11_10
  case hvx11_10 =>
    intro wz hSz
    go_simp
  try simp only [Act.put, List.setIfInBounds_toArray, List.set_cons_zero, List.set_cons_succ]
  refine wpAnyL_take (i := 11) (some 20) (.bool false) rfl rfl (by kernel_rfl) (by kernel_rfl) (by kernel_rfl) (by kernel_rfl) (fun _ _ _ h => h) (by rfl) ?hvx11_11 hS1 ?restx11_11
  case hvx11_11 =>
    intro wz hSz
    go_simp
  try simp only [Act.put, List.setIfInBounds_toArray, List.set_cons_zero, List.set_cons_succ]
  refine wpAnyL_take (i := 12) (some 21) (.agg #[.int .i64 p.temps, .slice AA p.arrays.length ac, bv, .int .i64 p.inp, .int .i64 p.out]) rfl rfl (by kernel_rfl) (by kernel_rfl) (by kernel_rfl) (by kernel_rfl) (fun _ _ _ h => h) (by rfl) ?hvx11_12 hS1 ?restx11_12
  case hvx11_12 =>
    intro wz hSz
    obtain ⟨z0, z1, z2, z3, z4, _⟩ := ir_cells_at ((hSz.block _ (lt_of_blk HXP.out)).trans HXP.out)
    go_simp
  try simp only [Act.put, List.setIfInBounds_toArray, List.set_cons_zero, List.set_cons_succ]
  refine wpAnyL_take (i := 13) (some 22) (.string L) rfl rfl (by kernel_rfl) (by kernel_rfl) (by kernel_rfl) (by kernel_rfl) (fun _ _ _ h => h) (by rfl) ?hvx11_13 hS1 ?restx11_13
  case hvx11_13 =>
    intro wz hSz
    go_simp
  try simp only [Act.put, List.setIfInBounds_toArray, List.set_cons_zero, List.set_cons_succ]
  refine wpAnyL_take (i := 15) (some 24) (.pointer (some ⟨w.heap.size + 1, 2, none⟩)) rfl rfl (by kernel_rfl) (by kernel_rfl) (by kernel_rfl) (by kernel_rfl) (fun _ _ _ h => h) (by rfl) ?hvx11_15 hS1 ?restx11_15
  case hvx11_15 =>
    intro wz hSz
    go_simp
  try simp only [Act.put, List.setIfInBounds_toArray, List.set_cons_zero, List.set_cons_succ]
  refine wpAnyL_take (i := 16) (some 25) (.int .i64 a) rfl rfl (by kernel_rfl) (by kernel_rfl) (by kernel_rfl) (by kernel_rfl) (fun _ _ _ h => h) (by rfl) ?hvx11_16 hS1 ?restx11_16
  case hvx11_16 =>
    intro wz hSz
    obtain ⟨y0, y1, y2, y3, y4, y5, _, _, _, _⟩ := op_cells_at ((hSz.block _ (lt_of_blk HXO.out)).trans HXO.out)
    go_simp
  try simp only [Act.put, List.setIfInBounds_toArray, List.set_cons_zero, List.set_cons_succ]
  refine wpAnyL_one (i := 14) (by kernel_rfl) rfl ?_
  intro K hK
  rw [if_pos (by rfl)]
  go_simp
  refine (HH1.out _).mono ?_
  rintro e w' ⟨rfl, rfl⟩
  refine hK.out _ _ (fun _ => hS1) ?_
  clear hK
  try simp only [Act.put, List.setIfInBounds_toArray, List.set_cons_zero, List.set_cons_succ]
  refine wpAnyL_one (i := 17) (by kernel_rfl) rfl ?_
  intro K hK
  rw [if_pos (by rfl)]
  go_simp
  refine (HF1.out _).mono ?_
  rintro e wc2 ⟨rfl, hb⟩
  have hS2 := bch hS1 hb
  refine hK.out _ _ (fun _ => hS2) ?_
  clear hK hb
  try simp only [Act.put, List.setIfInBounds_toArray, List.set_cons_zero, List.set_cons_succ]
  refine wpAnyL_take (i := 18) (some 27) (.bool false) rfl rfl (by kernel_rfl) (by kernel_rfl) (by kernel_rfl) (by kernel_rfl) (fun _ _ _ h => h) (by rfl) ?hvx11_18 hS2 ?restx11_18
  case hvx11_18 =>
    intro wz hSz
    go_simp
  try simp only [Act.put, List.setIfInBounds_toArray, List.set_cons_zero, List.set_cons_succ]
  refine wpAnyL_take (i := 19) (some 28) (.bool false) rfl rfl (by kernel_rfl) (by kernel_rfl) (by kernel_rfl) (by kernel_rfl) (fun _ _ _ h => h) (by rfl) ?hvx11_19 hS2 ?restx11_19
  case hvx11_19 =>
    intro wz hSz
    go_simp
  try simp only [Act.put, List.setIfInBounds_toArray, List.set_cons_zero, List.set_cons_succ]
  refine wpAnyL_take (i := 20) (some 29) (.bool false) rfl rfl (by kernel_rfl) (by kernel_rfl) (by kernel_rfl) (by kernel_rfl) (fun _ _ _ h => h) (by rfl) ?hvx11_20 hS2 ?restx11_20
  case hvx11_20 =>
    intro wz hSz
    go_simp
  try simp only [Act.put, List.setIfInBounds_toArray, List.set_cons_zero, List.set_cons_succ]
  refine wpAnyL_take (i := 21) (some 30) (.agg #[.int .i64 p.temps, .slice AA p.arrays.length ac, bv, .int .i64 p.inp, .int .i64 p.out]) rfl rfl (by kernel_rfl) (by kernel_rfl) (by kernel_rfl) (by kernel_rfl) (fun _ _ _ h => h) (by rfl) ?hvx11_21 hS2 ?restx11_21
  case hvx11_21 =>
    intro wz hSz
    obtain ⟨z0, z1, z2, z3, z4, _⟩ := ir_cells_at ((hSz.block _ (lt_of_blk HXP.out)).trans HXP.out)
    go_simp
  try simp only [Act.put, List.setIfInBounds_toArray, List.set_cons_zero, List.set_cons_succ]
  refine wpAnyL_take (i := 22) (some 31) (.string L) rfl rfl (by kernel_rfl) (by kernel_rfl) (by kernel_rfl) (by kernel_rfl) (fun _ _ _ h => h) (by rfl) ?hvx11_22 hS2 ?restx11_22
  case hvx11_22 =>
    intro wz hSz
    go_simp
  try simp only [Act.put, List.setIfInBounds_toArray, List.set_cons_zero, List.set_cons_succ]
  refine wpAnyL_take (i := 24) (some 33) (.pointer (some ⟨w.heap.size + 1, 3, none⟩)) rfl rfl (by kernel_rfl) (by kernel_rfl) (by kernel_rfl) (by kernel_rfl) (fun _ _ _ h => h) (by rfl) ?hvx11_24 hS2 ?restx11_24
  case hvx11_24 =>
    intro wz hSz
    go_simp
  try simp only [Act.put, List.setIfInBounds_toArray, List.set_cons_zero, List.set_cons_succ]
  refine wpAnyL_take (i := 25) (some 34) (.int .i64 b) rfl rfl (by kernel_rfl) (by kernel_rfl) (by kernel_rfl) (by kernel_rfl) (fun _ _ _ h => h) (by rfl) ?hvx11_25 hS2 ?restx11_25
  case hvx11_25 =>
    intro wz hSz
    obtain ⟨y0, y1, y2, y3, y4, y5, _, _, _, _⟩ := op_cells_at ((hSz.block _ (lt_of_blk HXO.out)).trans HXO.out)
    go_simp
  try simp only [Act.put, List.setIfInBounds_toArray, List.set_cons_zero, List.set_cons_succ]
  refine wpAnyL_one (i := 23) (by kernel_rfl) rfl ?_
  intro K hK
  rw [if_pos (by rfl)]
  go_simp
  refine (HH2.out _).mono ?_
  rintro e w' ⟨rfl, rfl⟩
  refine hK.out _ _ (fun _ => hS2) ?_
  clear hK
  try simp only [Act.put, List.setIfInBounds_toArray, List.set_cons_zero, List.set_cons_succ]
  refine wpAnyL_one (i := 26) (by kernel_rfl) rfl ?_
  intro K hK
  rw [if_pos (by rfl)]
  go_simp
  refine (HF2.out _).mono ?_
  rintro e wc3 ⟨rfl, hb⟩
  have hS3 := bch hS2 hb
  refine hK.out _ _ (fun _ => hS3) ?_
  clear hK hb
  try simp only [Act.put, List.setIfInBounds_toArray, List.set_cons_zero, List.set_cons_succ]
  refine wpAnyL_take (i := 27) (some 36) (.bool false) rfl rfl (by kernel_rfl) (by kernel_rfl) (by kernel_rfl) (by kernel_rfl) (fun _ _ _ h => h) (by rfl) ?hvx11_27 hS3 ?restx11_27
  case hvx11_27 =>
    intro wz hSz
    go_simp
  try simp only [Act.put, List.setIfInBounds_toArray, List.set_cons_zero, List.set_cons_succ]
  refine wpAnyL_take (i := 28) (some 37) (.bool false) rfl rfl (by kernel_rfl) (by kernel_rfl) (by kernel_rfl) (by kernel_rfl) (fun _ _ _ h => h) (by rfl) ?hvx11_28 hS3 ?restx11_28
  case hvx11_28 =>
    intro wz hSz
    go_simp
  try simp only [Act.put, List.setIfInBounds_toArray, List.set_cons_zero, List.set_cons_succ]
  refine wpAnyL_take (i := 29) (some 38) (.bool false) rfl rfl (by kernel_rfl) (by kernel_rfl) (by kernel_rfl) (by kernel_rfl) (fun _ _ _ h => h) (by rfl) ?hvx11_29 hS3 ?restx11_29
  case hvx11_29 =>
    intro wz hSz
    go_simp
  try simp only [Act.put, List.setIfInBounds_toArray, List.set_cons_zero, List.set_cons_succ]
  refine wpAnyL_take (i := 30) (some 39) (.agg #[.int .i64 p.temps, .slice AA p.arrays.length ac, bv, .int .i64 p.inp, .int .i64 p.out]) rfl rfl (by kernel_rfl) (by kernel_rfl) (by kernel_rfl) (by kernel_rfl) (fun _ _ _ h => h) (by rfl) ?hvx11_30 hS3 ?restx11_30
  case hvx11_30 =>
    intro wz hSz
    obtain ⟨z0, z1, z2, z3, z4, _⟩ := ir_cells_at ((hSz.block _ (lt_of_blk HXP.out)).trans HXP.out)
    go_simp
  try simp only [Act.put, List.setIfInBounds_toArray, List.set_cons_zero, List.set_cons_succ]
  refine wpAnyL_take (i := 31) (some 40) (.string L) rfl rfl (by kernel_rfl) (by kernel_rfl) (by kernel_rfl) (by kernel_rfl) (fun _ _ _ h => h) (by rfl) ?hvx11_31 hS3 ?restx11_31
  case hvx11_31 =>
    intro wz hSz
    go_simp
  try simp only [Act.put, List.setIfInBounds_toArray, List.set_cons_zero, List.set_cons_succ]
  refine wpAnyL_take (i := 33) (some 42) (.pointer (some ⟨w.heap.size + 1, 4, none⟩)) rfl rfl (by kernel_rfl) (by kernel_rfl) (by kernel_rfl) (by kernel_rfl) (fun _ _ _ h => h) (by rfl) ?hvx11_33 hS3 ?restx11_33
  case hvx11_33 =>
    intro wz hSz
    go_simp
  try simp only [Act.put, List.setIfInBounds_toArray, List.set_cons_zero, List.set_cons_succ]
  refine wpAnyL_take (i := 34) (some 43) (.int .i64 c) rfl rfl (by kernel_rfl) (by kernel_rfl) (by kernel_rfl) (by kernel_rfl) (fun _ _ _ h => h) (by rfl) ?hvx11_34 hS3 ?restx11_34
  case hvx11_34 =>
    intro wz hSz
    obtain ⟨y0, y1, y2, y3, y4, y5, _, _, _, _⟩ := op_cells_at ((hSz.block _ (lt_of_blk HXO.out)).trans HXO.out)
    go_simp
  try simp only [Act.put, List.setIfInBounds_toArray, List.set_cons_zero, List.set_cons_succ]
  refine wpAnyL_one (i := 32) (by kernel_rfl) rfl ?_
  intro K hK
  rw [if_pos (by rfl)]
  go_simp
  refine (HH3.out _).mono ?_
  rintro e w' ⟨rfl, rfl⟩
  refine hK.out _ _ (fun _ => hS3) ?_
  clear hK
  try simp only [Act.put, List.setIfInBounds_toArray, List.set_cons_zero, List.set_cons_succ]
  refine wpAnyL_one (i := 35) (by kernel_rfl) rfl ?_
  intro K hK
  rw [if_pos (by rfl)]
  go_simp
  refine (HF3.out _).mono ?_
  rintro e wc4 ⟨rfl, hb⟩
  have hS4 := bch hS3 hb
  refine hK.out _ _ (fun _ => hS4) ?_
  clear hK hb
  try simp only [Act.put, List.setIfInBounds_toArray, List.set_cons_zero, List.set_cons_succ]
  refine wpAnyL_take (i := 36) (some 45) (.bool false) rfl rfl (by kernel_rfl) (by kernel_rfl) (by kernel_rfl) (by kernel_rfl) (fun _ _ _ h => h) (by rfl) ?hvx11_36 hS4 ?restx11_36
  case hvx11_36 =>
    intro wz hSz
    go_simp
  try simp only [Act.put, List.setIfInBounds_toArray, List.set_cons_zero, List.set_cons_succ]
  refine wpAnyL_take (i := 37) (some 46) (.bool false) rfl rfl (by kernel_rfl) (by kernel_rfl) (by kernel_rfl) (by kernel_rfl) (fun _ _ _ h => h) (by rfl) ?hvx11_37 hS4 ?restx11_37
  case hvx11_37 =>
    intro wz hSz
    go_simp
  try simp only [Act.put, List.setIfInBounds_toArray, List.set_cons_zero, List.set_cons_succ]
  refine wpAnyL_take (i := 38) (some 47) (.bool false) rfl rfl (by kernel_rfl) (by kernel_rfl) (by kernel_rfl) (by kernel_rfl) (fun _ _ _ h => h) (by rfl) ?hvx11_38 hS4 ?restx11_38
  case hvx11_38 =>
    intro wz hSz
    go_simp
  try simp only [Act.put, List.setIfInBounds_toArray, List.set_cons_zero, List.set_cons_succ]
  refine wpAnyL_take (i := 39) (some 48) (.pointer (some ⟨w.heap.size + 1, 5, none⟩)) rfl rfl (by kernel_rfl) (by kernel_rfl) (by kernel_rfl) (by kernel_rfl) (fun _ _ _ h => h) (by rfl) ?hvx11_39 hS4 ?restx11_39
  case hvx11_39 =>
    intro wz hSz
    go_simp
  try simp only [Act.put, List.setIfInBounds_toArray, List.set_cons_zero, List.set_cons_succ]
  refine wpAnyL_take (i := 40) (some 49) (.int .i64 i) rfl rfl (by kernel_rfl) (by kernel_rfl) (by kernel_rfl) (by kernel_rfl) (fun _ _ _ h => h) (by rfl) ?hvx11_40 hS4 ?restx11_40
  case hvx11_40 =>
    intro wz hSz
    obtain ⟨y0, y1, y2, y3, y4, y5, _, _, _, _⟩ := op_cells_at ((hSz.block _ (lt_of_blk HXO.out)).trans HXO.out)
    go_simp
  try simp only [Act.put, List.setIfInBounds_toArray, List.set_cons_zero, List.set_cons_succ]
  refine wpAnyL_take (i := 41) (some 50) (.bool false) rfl rfl (by kernel_rfl) (by kernel_rfl) (by kernel_rfl) (by kernel_rfl) (fun _ _ _ h => h) (by rfl) ?hvx11_41 hS4 ?restx11_41
  case hvx11_41 =>
    intro wz hSz
    go_simp
  try simp only [Act.put, List.setIfInBounds_toArray, List.set_cons_zero, List.set_cons_succ]
  refine wpAnyL_take (i := 42) (some 51) (.bool false) rfl rfl (by kernel_rfl) (by kernel_rfl) (by kernel_rfl) (by kernel_rfl) (fun _ _ _ h => h) (by rfl) ?hvx11_42 hS4 ?restx11_42
  case hvx11_42 =>
    intro wz hSz
    go_simp
  try simp only [Act.put, List.setIfInBounds_toArray, List.set_cons_zero, List.set_cons_succ]
  refine wpAnyL_done (by kernel_rfl) ?_ _
  have HSW := Lib.hid hS4
  obtain ⟨y0, y1, y2, y3, y4, y5, _, _, _, _⟩ := op_cells_at ((hS4.block _ (lt_of_blk HXO.out)).trans HXO.out)
  obtain ⟨z0, z1, z2, z3, z4, _⟩ := ir_cells_at ((hS4.block _ (lt_of_blk HXP.out)).trans HXP.out)
  go_wp2_with fail
  refine (HQ110.out _).mono ?_
  rintro e w' ⟨rfl, rfl⟩
  go_wp2_with fail
  refine (HQ115.out _).mono ?_
  rintro e w' ⟨rfl, rfl⟩
  go_wp2_with fail
  refine (HQ114.out _).mono ?_
  rintro e w' ⟨rfl, rfl⟩
  go_wp2_with fail
  go_ret
  exact ⟨rfl, bch HBW.out HSW.out⟩
set_option maxHeartbeats 8000000 in
set_option maxRecDepth 100000 in
theorem ref_op_r19 (p : Ir) (AA : Option Addr) (ac : Nat) (bv : Value) (k d a b c i : Int) (L : ByteArray) (fd s1 s2 s3 : Bool) (qL : (L == ⟨#[]⟩) = false) (qL2 : (L.toList == ByteArray.toList ⟨#[]⟩) = false) (qL3 : (L.toList == []) = false) (Lsz : L.size ≤ 1000000) (h100 : hasC L 100 = fd) (h97 : hasC L 97 = s1) (h98 : hasC L 98 = s2) (h99 : hasC L 99 = s3) (g0 : decide (fieldP p fd d) = true) (g1 : decide (fieldP p s1 a) = true) (g2 : decide (fieldP p s2 b) = true) (g3 : decide (fieldP p s3 c) = true) (n : Nat) (hin : i = (n : Int)) (hil : n < p.arrays.length) (q18 : (k == 18) = false) (kk : Int) (ab aoff : Nat) (hAA : AA = some ⟨ab, aoff, none⟩) (q110 : hasC L 110 = false) (q115 : hasC L 115 = false) (q114 : hasC L 114 = true) (hLT : ∀ W, Calls Try.prog 54 #[.int .i64 k] W fun e w' => e = .returned (.string L) ∧ Below W.heap.size W w') (w : World) (hab : ab < w.heap.size) (hk2 : w.cell? ⟨ab, aoff + n * 4 + 2, none⟩ = some (.int .i64 kk)) :
    Calls Try.prog 39 #[.agg #[.int .i64 p.temps, .slice AA p.arrays.length ac, bv, .int .i64 p.inp, .int .i64 p.out], .agg #[.int .i64 k, .int .i64 d, .int .i64 a, .int .i64 b, .int .i64 c, .int .i64 i]] w fun e w' => e = .returned (.bool (kk != 1)) ∧ Below w.heap.size w w' := by
  have hq110 := fun W => ref_has L 110 Lsz W
  rw [q110] at hq110
  have HQ110 := Lib.hid hq110
  clear hq110 q110
  have hq115 := fun W => ref_has L 115 Lsz W
  rw [q115] at hq115
  have HQ115 := Lib.hid hq115
  clear hq115 q115
  have hq114 := fun W => ref_has L 114 Lsz W
  rw [q114] at hq114
  have HQ114 := Lib.hid hq114
  clear hq114 q114
  subst hin hAA
  have n0 : (0 : Int) ≤ (n : Int) := by omega
  have n1 : (n : Int) < (p.arrays.length : Int) := by omega
  have HK2 := Lib.hid hk2
  have HAB := Lib.hid hab
  clear hk2 hab hil
  have HLT := Lib.hid hLT
  have hh0 := fun W => ref_has L 100 Lsz W
  rw [h100] at hh0
  have HH0 := Lib.hid hh0
  have hf0 := fun W => ref_field p (.slice (some ⟨ab, aoff, none⟩) p.arrays.length ac) bv fd d W
  rw [g0] at hf0
  unfold irVal at hf0
  have HF0 := Lib.hid hf0
  clear hh0 hf0 h100 g0
  have hh1 := fun W => ref_has L 97 Lsz W
  rw [h97] at hh1
  have HH1 := Lib.hid hh1
  have hf1 := fun W => ref_field p (.slice (some ⟨ab, aoff, none⟩) p.arrays.length ac) bv s1 a W
  rw [g1] at hf1
  unfold irVal at hf1
  have HF1 := Lib.hid hf1
  clear hh1 hf1 h97 g1
  have hh2 := fun W => ref_has L 98 Lsz W
  rw [h98] at hh2
  have HH2 := Lib.hid hh2
  have hf2 := fun W => ref_field p (.slice (some ⟨ab, aoff, none⟩) p.arrays.length ac) bv s2 b W
  rw [g2] at hf2
  unfold irVal at hf2
  have HF2 := Lib.hid hf2
  clear hh2 hf2 h98 g2
  have hh3 := fun W => ref_has L 99 Lsz W
  rw [h99] at hh3
  have HH3 := Lib.hid hh3
  have hf3 := fun W => ref_field p (.slice (some ⟨ab, aoff, none⟩) p.arrays.length ac) bv s3 c W
  rw [g3] at hf3
  unfold irVal at hf3
  have HF3 := Lib.hid hf3
  clear hh3 hf3 h99 g3
  clear hLT Lsz
  go_enter Try.func39, Try.ntmps39
  go_wp2_with fail
  refine (HLT.out _).mono ?_
  rintro e w2 ⟨rfl, hb⟩
  have hxp := (hb.block w.heap.size (by first | (simp; done) | (simp; omega))).trans (((bnew (w.alloc (.cells #[.int .i64 p.temps, .slice (some ⟨ab, aoff, none⟩) p.arrays.length ac, bv, .int .i64 p.inp, .int .i64 p.out] 25)) _).block w.heap.size (by simp)).trans (heap_alloc_new w _))
  have hxo := (hb.block (w.heap.size + 1) (by simp)).trans (alloc_new2 w _ _)
  have HXP := Lib.hid hxp
  have HXO := Lib.hid hxo
  have HBW := Lib.hid (bch (bal (bnew _ _) _) hb)
  clear hb hxp hxo
  go_wp2_with fail
  refine wp_region_L (fun w' => Below w2.heap.size w2 w') 99 (by kernel_rfl) ?_
  have hS0 : Below w2.heap.size w2 w2.drew := Below.drew (Below.refl _ _)
  refine wpAnyL_take (i := 0) (some 9) (.string L) rfl rfl (by kernel_rfl) (by kernel_rfl) (by kernel_rfl) (by kernel_rfl) (fun _ _ _ h => h) (by rfl) ?hvx12_0 hS0 ?restx12_0
  case hvx12_0 =>
    intro wz hSz
    go_simp
  try simp only [Act.put, List.setIfInBounds_toArray, List.set_cons_zero, List.set_cons_succ]
  refine wpAnyL_take (i := 1) (some 10) (.bool false) rfl rfl (by kernel_rfl) (by kernel_rfl) (by kernel_rfl) (by kernel_rfl) (fun _ _ _ h => h) (by rfl) ?hvx12_1 hS0 ?restx12_1
  case hvx12_1 =>
    intro wz hSz
    go_simp
  try simp only [Act.put, List.setIfInBounds_toArray, List.set_cons_zero, List.set_cons_succ]
  refine wpAnyL_take (i := 2) (some 11) (.bool false) rfl rfl (by kernel_rfl) (by kernel_rfl) (by kernel_rfl) (by kernel_rfl) (fun _ _ _ h => h) (by rfl) ?hvx12_2 hS0 ?restx12_2
  case hvx12_2 =>
    intro wz hSz
    go_simp
  try simp only [Act.put, List.setIfInBounds_toArray, List.set_cons_zero, List.set_cons_succ]
  refine wpAnyL_take (i := 3) (some 12) (.agg #[.int .i64 p.temps, .slice (some ⟨ab, aoff, none⟩) p.arrays.length ac, bv, .int .i64 p.inp, .int .i64 p.out]) rfl rfl (by kernel_rfl) (by kernel_rfl) (by kernel_rfl) (by kernel_rfl) (fun _ _ _ h => h) (by rfl) ?hvx12_3 hS0 ?restx12_3
  case hvx12_3 =>
    intro wz hSz
    obtain ⟨z0, z1, z2, z3, z4, _⟩ := ir_cells_at ((hSz.block _ (lt_of_blk HXP.out)).trans HXP.out)
    go_simp
  try simp only [Act.put, List.setIfInBounds_toArray, List.set_cons_zero, List.set_cons_succ]
  refine wpAnyL_take (i := 4) (some 13) (.string L) rfl rfl (by kernel_rfl) (by kernel_rfl) (by kernel_rfl) (by kernel_rfl) (fun _ _ _ h => h) (by rfl) ?hvx12_4 hS0 ?restx12_4
  case hvx12_4 =>
    intro wz hSz
    go_simp
  try simp only [Act.put, List.setIfInBounds_toArray, List.set_cons_zero, List.set_cons_succ]
  refine wpAnyL_take (i := 6) (some 15) (.pointer (some ⟨w.heap.size + 1, 1, none⟩)) rfl rfl (by kernel_rfl) (by kernel_rfl) (by kernel_rfl) (by kernel_rfl) (fun _ _ _ h => h) (by rfl) ?hvx12_6 hS0 ?restx12_6
  case hvx12_6 =>
    intro wz hSz
    go_simp
  try simp only [Act.put, List.setIfInBounds_toArray, List.set_cons_zero, List.set_cons_succ]
  refine wpAnyL_take (i := 7) (some 16) (.int .i64 d) rfl rfl (by kernel_rfl) (by kernel_rfl) (by kernel_rfl) (by kernel_rfl) (fun _ _ _ h => h) (by rfl) ?hvx12_7 hS0 ?restx12_7
  case hvx12_7 =>
    intro wz hSz
    obtain ⟨y0, y1, y2, y3, y4, y5, _, _, _, _⟩ := op_cells_at ((hSz.block _ (lt_of_blk HXO.out)).trans HXO.out)
    go_simp
  try simp only [Act.put, List.setIfInBounds_toArray, List.set_cons_zero, List.set_cons_succ]
  refine wpAnyL_one (i := 5) (by kernel_rfl) rfl ?_
  intro K hK
  rw [if_pos (by rfl)]
  go_simp
  refine (HH0.out _).mono ?_
  rintro e w' ⟨rfl, rfl⟩
  refine hK.out _ _ (fun _ => hS0) ?_
  clear hK
  try simp only [Act.put, List.setIfInBounds_toArray, List.set_cons_zero, List.set_cons_succ]
  refine wpAnyL_one (i := 8) (by kernel_rfl) rfl ?_
  intro K hK
  rw [if_pos (by rfl)]
  go_simp
  refine (HF0.out _).mono ?_
  rintro e wc1 ⟨rfl, hb⟩
  have hS1 := bch hS0 hb
  refine hK.out _ _ (fun _ => hS1) ?_
  clear hK hb
  try simp only [Act.put, List.setIfInBounds_toArray, List.set_cons_zero, List.set_cons_succ]
  refine wpAnyL_take (i := 9) (some 18) (.bool false) rfl rfl (by kernel_rfl) (by kernel_rfl) (by kernel_rfl) (by kernel_rfl) (fun _ _ _ h => h) (by rfl) ?hvx12_9 hS1 ?restx12_9
  case hvx12_9 =>
    intro wz hSz
    go_simp
  try simp only [Act.put, List.setIfInBounds_toArray, List.set_cons_zero, List.set_cons_succ]
  refine wpAnyL_take (i := 10) (some 19) (.bool false) rfl rfl (by kernel_rfl) (by kernel_rfl) (by kernel_rfl) (by kernel_rfl) (fun _ _ _ h => h) (by rfl) ?hvx12_10 hS1 ?restx12_10
  case hvx12_10 =>
    intro wz hSz
    go_simp
  try simp only [Act.put, List.setIfInBounds_toArray, List.set_cons_zero, List.set_cons_succ]
  refine wpAnyL_take (i := 11) (some 20) (.bool false) rfl rfl (by kernel_rfl) (by kernel_rfl) (by kernel_rfl) (by kernel_rfl) (fun _ _ _ h => h) (by rfl) ?hvx12_11 hS1 ?restx12_11
  case hvx12_11 =>
    intro wz hSz
    go_simp
  try simp only [Act.put, List.setIfInBounds_toArray, List.set_cons_zero, List.set_cons_succ]
  refine wpAnyL_take (i := 12) (some 21) (.agg #[.int .i64 p.temps, .slice (some ⟨ab, aoff, none⟩) p.arrays.length ac, bv, .int .i64 p.inp, .int .i64 p.out]) rfl rfl (by kernel_rfl) (by kernel_rfl) (by kernel_rfl) (by kernel_rfl) (fun _ _ _ h => h) (by rfl) ?hvx12_12 hS1 ?restx12_12
  case hvx12_12 =>
    intro wz hSz
    obtain ⟨z0, z1, z2, z3, z4, _⟩ := ir_cells_at ((hSz.block _ (lt_of_blk HXP.out)).trans HXP.out)
    go_simp
  try simp only [Act.put, List.setIfInBounds_toArray, List.set_cons_zero, List.set_cons_succ]
  refine wpAnyL_take (i := 13) (some 22) (.string L) rfl rfl (by kernel_rfl) (by kernel_rfl) (by kernel_rfl) (by kernel_rfl) (fun _ _ _ h => h) (by rfl) ?hvx12_13 hS1 ?restx12_13
  case hvx12_13 =>
    intro wz hSz
    go_simp
  try simp only [Act.put, List.setIfInBounds_toArray, List.set_cons_zero, List.set_cons_succ]
  refine wpAnyL_take (i := 15) (some 24) (.pointer (some ⟨w.heap.size + 1, 2, none⟩)) rfl rfl (by kernel_rfl) (by kernel_rfl) (by kernel_rfl) (by kernel_rfl) (fun _ _ _ h => h) (by rfl) ?hvx12_15 hS1 ?restx12_15
  case hvx12_15 =>
    intro wz hSz
    go_simp
  try simp only [Act.put, List.setIfInBounds_toArray, List.set_cons_zero, List.set_cons_succ]
  refine wpAnyL_take (i := 16) (some 25) (.int .i64 a) rfl rfl (by kernel_rfl) (by kernel_rfl) (by kernel_rfl) (by kernel_rfl) (fun _ _ _ h => h) (by rfl) ?hvx12_16 hS1 ?restx12_16
  case hvx12_16 =>
    intro wz hSz
    obtain ⟨y0, y1, y2, y3, y4, y5, _, _, _, _⟩ := op_cells_at ((hSz.block _ (lt_of_blk HXO.out)).trans HXO.out)
    go_simp
  try simp only [Act.put, List.setIfInBounds_toArray, List.set_cons_zero, List.set_cons_succ]
  refine wpAnyL_one (i := 14) (by kernel_rfl) rfl ?_
  intro K hK
  rw [if_pos (by rfl)]
  go_simp
  refine (HH1.out _).mono ?_
  rintro e w' ⟨rfl, rfl⟩
  refine hK.out _ _ (fun _ => hS1) ?_
  clear hK
  try simp only [Act.put, List.setIfInBounds_toArray, List.set_cons_zero, List.set_cons_succ]
  refine wpAnyL_one (i := 17) (by kernel_rfl) rfl ?_
  intro K hK
  rw [if_pos (by rfl)]
  go_simp
  refine (HF1.out _).mono ?_
  rintro e wc2 ⟨rfl, hb⟩
  have hS2 := bch hS1 hb
  refine hK.out _ _ (fun _ => hS2) ?_
  clear hK hb
  try simp only [Act.put, List.setIfInBounds_toArray, List.set_cons_zero, List.set_cons_succ]
  refine wpAnyL_take (i := 18) (some 27) (.bool false) rfl rfl (by kernel_rfl) (by kernel_rfl) (by kernel_rfl) (by kernel_rfl) (fun _ _ _ h => h) (by rfl) ?hvx12_18 hS2 ?restx12_18
  case hvx12_18 =>
    intro wz hSz
    go_simp
  try simp only [Act.put, List.setIfInBounds_toArray, List.set_cons_zero, List.set_cons_succ]
  refine wpAnyL_take (i := 19) (some 28) (.bool false) rfl rfl (by kernel_rfl) (by kernel_rfl) (by kernel_rfl) (by kernel_rfl) (fun _ _ _ h => h) (by rfl) ?hvx12_19 hS2 ?restx12_19
  case hvx12_19 =>
    intro wz hSz
    go_simp
  try simp only [Act.put, List.setIfInBounds_toArray, List.set_cons_zero, List.set_cons_succ]
  refine wpAnyL_take (i := 20) (some 29) (.bool false) rfl rfl (by kernel_rfl) (by kernel_rfl) (by kernel_rfl) (by kernel_rfl) (fun _ _ _ h => h) (by rfl) ?hvx12_20 hS2 ?restx12_20
  case hvx12_20 =>
    intro wz hSz
    go_simp
  try simp only [Act.put, List.setIfInBounds_toArray, List.set_cons_zero, List.set_cons_succ]
  refine wpAnyL_take (i := 21) (some 30) (.agg #[.int .i64 p.temps, .slice (some ⟨ab, aoff, none⟩) p.arrays.length ac, bv, .int .i64 p.inp, .int .i64 p.out]) rfl rfl (by kernel_rfl) (by kernel_rfl) (by kernel_rfl) (by kernel_rfl) (fun _ _ _ h => h) (by rfl) ?hvx12_21 hS2 ?restx12_21
  case hvx12_21 =>
    intro wz hSz
    obtain ⟨z0, z1, z2, z3, z4, _⟩ := ir_cells_at ((hSz.block _ (lt_of_blk HXP.out)).trans HXP.out)
    go_simp
  try simp only [Act.put, List.setIfInBounds_toArray, List.set_cons_zero, List.set_cons_succ]
  refine wpAnyL_take (i := 22) (some 31) (.string L) rfl rfl (by kernel_rfl) (by kernel_rfl) (by kernel_rfl) (by kernel_rfl) (fun _ _ _ h => h) (by rfl) ?hvx12_22 hS2 ?restx12_22
  case hvx12_22 =>
    intro wz hSz
    go_simp
  try simp only [Act.put, List.setIfInBounds_toArray, List.set_cons_zero, List.set_cons_succ]
  refine wpAnyL_take (i := 24) (some 33) (.pointer (some ⟨w.heap.size + 1, 3, none⟩)) rfl rfl (by kernel_rfl) (by kernel_rfl) (by kernel_rfl) (by kernel_rfl) (fun _ _ _ h => h) (by rfl) ?hvx12_24 hS2 ?restx12_24
  case hvx12_24 =>
    intro wz hSz
    go_simp
  try simp only [Act.put, List.setIfInBounds_toArray, List.set_cons_zero, List.set_cons_succ]
  refine wpAnyL_take (i := 25) (some 34) (.int .i64 b) rfl rfl (by kernel_rfl) (by kernel_rfl) (by kernel_rfl) (by kernel_rfl) (fun _ _ _ h => h) (by rfl) ?hvx12_25 hS2 ?restx12_25
  case hvx12_25 =>
    intro wz hSz
    obtain ⟨y0, y1, y2, y3, y4, y5, _, _, _, _⟩ := op_cells_at ((hSz.block _ (lt_of_blk HXO.out)).trans HXO.out)
    go_simp
  try simp only [Act.put, List.setIfInBounds_toArray, List.set_cons_zero, List.set_cons_succ]
  refine wpAnyL_one (i := 23) (by kernel_rfl) rfl ?_
  intro K hK
  rw [if_pos (by rfl)]
  go_simp
  refine (HH2.out _).mono ?_
  rintro e w' ⟨rfl, rfl⟩
  refine hK.out _ _ (fun _ => hS2) ?_
  clear hK
  try simp only [Act.put, List.setIfInBounds_toArray, List.set_cons_zero, List.set_cons_succ]
  refine wpAnyL_one (i := 26) (by kernel_rfl) rfl ?_
  intro K hK
  rw [if_pos (by rfl)]
  go_simp
  refine (HF2.out _).mono ?_
  rintro e wc3 ⟨rfl, hb⟩
  have hS3 := bch hS2 hb
  refine hK.out _ _ (fun _ => hS3) ?_
  clear hK hb
  try simp only [Act.put, List.setIfInBounds_toArray, List.set_cons_zero, List.set_cons_succ]
  refine wpAnyL_take (i := 27) (some 36) (.bool false) rfl rfl (by kernel_rfl) (by kernel_rfl) (by kernel_rfl) (by kernel_rfl) (fun _ _ _ h => h) (by rfl) ?hvx12_27 hS3 ?restx12_27
  case hvx12_27 =>
    intro wz hSz
    go_simp
  try simp only [Act.put, List.setIfInBounds_toArray, List.set_cons_zero, List.set_cons_succ]
  refine wpAnyL_take (i := 28) (some 37) (.bool false) rfl rfl (by kernel_rfl) (by kernel_rfl) (by kernel_rfl) (by kernel_rfl) (fun _ _ _ h => h) (by rfl) ?hvx12_28 hS3 ?restx12_28
  case hvx12_28 =>
    intro wz hSz
    go_simp
  try simp only [Act.put, List.setIfInBounds_toArray, List.set_cons_zero, List.set_cons_succ]
  refine wpAnyL_take (i := 29) (some 38) (.bool false) rfl rfl (by kernel_rfl) (by kernel_rfl) (by kernel_rfl) (by kernel_rfl) (fun _ _ _ h => h) (by rfl) ?hvx12_29 hS3 ?restx12_29
  case hvx12_29 =>
    intro wz hSz
    go_simp
  try simp only [Act.put, List.setIfInBounds_toArray, List.set_cons_zero, List.set_cons_succ]
  refine wpAnyL_take (i := 30) (some 39) (.agg #[.int .i64 p.temps, .slice (some ⟨ab, aoff, none⟩) p.arrays.length ac, bv, .int .i64 p.inp, .int .i64 p.out]) rfl rfl (by kernel_rfl) (by kernel_rfl) (by kernel_rfl) (by kernel_rfl) (fun _ _ _ h => h) (by rfl) ?hvx12_30 hS3 ?restx12_30
  case hvx12_30 =>
    intro wz hSz
    obtain ⟨z0, z1, z2, z3, z4, _⟩ := ir_cells_at ((hSz.block _ (lt_of_blk HXP.out)).trans HXP.out)
    go_simp
  try simp only [Act.put, List.setIfInBounds_toArray, List.set_cons_zero, List.set_cons_succ]
  refine wpAnyL_take (i := 31) (some 40) (.string L) rfl rfl (by kernel_rfl) (by kernel_rfl) (by kernel_rfl) (by kernel_rfl) (fun _ _ _ h => h) (by rfl) ?hvx12_31 hS3 ?restx12_31
  case hvx12_31 =>
    intro wz hSz
    go_simp
  try simp only [Act.put, List.setIfInBounds_toArray, List.set_cons_zero, List.set_cons_succ]
  refine wpAnyL_take (i := 33) (some 42) (.pointer (some ⟨w.heap.size + 1, 4, none⟩)) rfl rfl (by kernel_rfl) (by kernel_rfl) (by kernel_rfl) (by kernel_rfl) (fun _ _ _ h => h) (by rfl) ?hvx12_33 hS3 ?restx12_33
  case hvx12_33 =>
    intro wz hSz
    go_simp
  try simp only [Act.put, List.setIfInBounds_toArray, List.set_cons_zero, List.set_cons_succ]
  refine wpAnyL_take (i := 34) (some 43) (.int .i64 c) rfl rfl (by kernel_rfl) (by kernel_rfl) (by kernel_rfl) (by kernel_rfl) (fun _ _ _ h => h) (by rfl) ?hvx12_34 hS3 ?restx12_34
  case hvx12_34 =>
    intro wz hSz
    obtain ⟨y0, y1, y2, y3, y4, y5, _, _, _, _⟩ := op_cells_at ((hSz.block _ (lt_of_blk HXO.out)).trans HXO.out)
    go_simp
  try simp only [Act.put, List.setIfInBounds_toArray, List.set_cons_zero, List.set_cons_succ]
  refine wpAnyL_one (i := 32) (by kernel_rfl) rfl ?_
  intro K hK
  rw [if_pos (by rfl)]
  go_simp
  refine (HH3.out _).mono ?_
  rintro e w' ⟨rfl, rfl⟩
  refine hK.out _ _ (fun _ => hS3) ?_
  clear hK
  try simp only [Act.put, List.setIfInBounds_toArray, List.set_cons_zero, List.set_cons_succ]
  refine wpAnyL_one (i := 35) (by kernel_rfl) rfl ?_
  intro K hK
  rw [if_pos (by rfl)]
  go_simp
  refine (HF3.out _).mono ?_
  rintro e wc4 ⟨rfl, hb⟩
  have hS4 := bch hS3 hb
  refine hK.out _ _ (fun _ => hS4) ?_
  clear hK hb
  try simp only [Act.put, List.setIfInBounds_toArray, List.set_cons_zero, List.set_cons_succ]
  refine wpAnyL_take (i := 36) (some 45) (.bool false) rfl rfl (by kernel_rfl) (by kernel_rfl) (by kernel_rfl) (by kernel_rfl) (fun _ _ _ h => h) (by rfl) ?hvx12_36 hS4 ?restx12_36
  case hvx12_36 =>
    intro wz hSz
    go_simp
  try simp only [Act.put, List.setIfInBounds_toArray, List.set_cons_zero, List.set_cons_succ]
  refine wpAnyL_take (i := 37) (some 46) (.bool false) rfl rfl (by kernel_rfl) (by kernel_rfl) (by kernel_rfl) (by kernel_rfl) (fun _ _ _ h => h) (by rfl) ?hvx12_37 hS4 ?restx12_37
  case hvx12_37 =>
    intro wz hSz
    go_simp
  try simp only [Act.put, List.setIfInBounds_toArray, List.set_cons_zero, List.set_cons_succ]
  refine wpAnyL_take (i := 38) (some 47) (.bool false) rfl rfl (by kernel_rfl) (by kernel_rfl) (by kernel_rfl) (by kernel_rfl) (fun _ _ _ h => h) (by rfl) ?hvx12_38 hS4 ?restx12_38
  case hvx12_38 =>
    intro wz hSz
    go_simp
  try simp only [Act.put, List.setIfInBounds_toArray, List.set_cons_zero, List.set_cons_succ]
  refine wpAnyL_take (i := 39) (some 48) (.pointer (some ⟨w.heap.size + 1, 5, none⟩)) rfl rfl (by kernel_rfl) (by kernel_rfl) (by kernel_rfl) (by kernel_rfl) (fun _ _ _ h => h) (by rfl) ?hvx12_39 hS4 ?restx12_39
  case hvx12_39 =>
    intro wz hSz
    go_simp
  try simp only [Act.put, List.setIfInBounds_toArray, List.set_cons_zero, List.set_cons_succ]
  refine wpAnyL_take (i := 40) (some 49) (.int .i64 (n : Int)) rfl rfl (by kernel_rfl) (by kernel_rfl) (by kernel_rfl) (by kernel_rfl) (fun _ _ _ h => h) (by rfl) ?hvx12_40 hS4 ?restx12_40
  case hvx12_40 =>
    intro wz hSz
    obtain ⟨y0, y1, y2, y3, y4, y5, _, _, _, _⟩ := op_cells_at ((hSz.block _ (lt_of_blk HXO.out)).trans HXO.out)
    go_simp
  try simp only [Act.put, List.setIfInBounds_toArray, List.set_cons_zero, List.set_cons_succ]
  refine wpAnyL_take (i := 41) (some 50) (.bool false) rfl rfl (by kernel_rfl) (by kernel_rfl) (by kernel_rfl) (by kernel_rfl) (fun _ _ _ h => h) (by rfl) ?hvx12_41 hS4 ?restx12_41
  case hvx12_41 =>
    intro wz hSz
    go_simp
  try simp only [Act.put, List.setIfInBounds_toArray, List.set_cons_zero, List.set_cons_succ]
  refine wpAnyL_take (i := 42) (some 51) (.bool false) rfl rfl (by kernel_rfl) (by kernel_rfl) (by kernel_rfl) (by kernel_rfl) (fun _ _ _ h => h) (by rfl) ?hvx12_42 hS4 ?restx12_42
  case hvx12_42 =>
    intro wz hSz
    go_simp
  try simp only [Act.put, List.setIfInBounds_toArray, List.set_cons_zero, List.set_cons_succ]
  refine wpAnyL_done (by kernel_rfl) ?_ _
  have hk3 := ((bch HBW.out hS4).cell (p := ⟨ab, aoff + n * 4 + 2, none⟩) HAB.out).trans HK2.out
  have HSW := Lib.hid hS4
  obtain ⟨y0, y1, y2, y3, y4, y5, _, _, _, _⟩ := op_cells_at ((hS4.block _ (lt_of_blk HXO.out)).trans HXO.out)
  obtain ⟨z0, z1, z2, z3, z4, _⟩ := ir_cells_at ((hS4.block _ (lt_of_blk HXP.out)).trans HXP.out)
  go_wp2_with fail
  refine (HQ110.out _).mono ?_
  rintro e w' ⟨rfl, rfl⟩
  go_wp2_with fail
  refine (HQ115.out _).mono ?_
  rintro e w' ⟨rfl, rfl⟩
  go_wp2_with fail
  refine (HQ114.out _).mono ?_
  rintro e w' ⟨rfl, rfl⟩
  go_wp2_with fail
  go_ret
  exact ⟨rfl, bch HBW.out HSW.out⟩
end Go.Proofs.Ythkobddggoojlaa
