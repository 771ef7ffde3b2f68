/- Parts of a proof. No condition but those that each theorem names. -/
import Derived.WalkKit
import Derived.OpenShut
import Derived.Below
import Derived.Lib.Hide
import Derived.Laws.OwnMore
import Derived.Deep.QuietTactic
import Derived.Deep.AppendLies
import Derived.ProofKit
import Derived.SizedLaws
import Derived.Test.YthkobddggoojlaaProg
import Derived.Handy
import Derived.Deep.RegionHeld3
import Derived.BigQuiet
import Derived.Maps.AppendAt
import Derived.StillTailTactics
import Derived.Laws.CopyOwn
import Derived.Lib.BufferWrite
import Derived.OrdersHeld
import Derived.RegionTactic
import Derived.Test.YthkobddggoojlaaTeG0e0
import Derived.Test.YthkobddggoojlaaTeG0e1
import Derived.Test.YthkobddggoojlaaTeG0e2
import Derived.Test.YthkobddggoojlaaTeG0e4
import Derived.Test.YthkobddggoojlaaTeG0e14
import Derived.Test.YthkobddggoojlaaTeG1e15
import Derived.Test.YthkobddggoojlaaTeG0e11
import Derived.Test.YthkobddggoojlaaTeG1e5
namespace Go.Proofs.Ythkobddggoojlaa
open Go.RowKit
set_option linter.unusedVariables false
set_option maxHeartbeats 8000000 in
set_option maxRecDepth 100000 in
theorem ref_op_bad5 (p : Ir) (AA : Option Addr) (ac : Nat) (bv : Value) (k d a b c i : Int) (L : ByteArray) (fd s1 s2 s3 : Bool) (qL : (L == ⟨#[]⟩) = false) (qL2 : (L.toList == ByteArray.toList ⟨#[]⟩) = false) (qL3 : (L.toList == []) = false) (Lsz : L.size ≤ 1000000) (h100 : hasC L 100 = fd) (h97 : hasC L 97 = s1) (h98 : hasC L 98 = s2) (h99 : hasC L 99 = s3) (g0 : decide (fieldP p fd d) = true) (g1 : decide (fieldP p s1 a) = true) (g2 : decide (fieldP p s2 b) = true) (g3 : decide (fieldP p s3 c) = true) (hi : i < 0) (hLT : ∀ W, Calls Try.prog 54 #[.int .i64 k] W fun e w' => e = .returned (.string L) ∧ Below W.heap.size W w') (w : World) :
    Calls Try.prog 39 #[.agg #[.int .i64 p.temps, .slice AA p.arrays.length ac, bv, .int .i64 p.inp, .int .i64 p.out], .agg #[.int .i64 k, .int .i64 d, .int .i64 a, .int .i64 b, .int .i64 c, .int .i64 i]] w fun e w' => e = .returned (.bool false) ∧ Below w.heap.size w w' := by
  have HLT := Lib.hid hLT
  have hh0 := fun W => ref_has L 100 Lsz W
  rw [h100] at hh0
  have HH0 := Lib.hid hh0
  have hf0 := fun W => ref_field p (.slice AA p.arrays.length ac) bv fd d W
  rw [g0] at hf0
  unfold irVal at hf0
  have HF0 := Lib.hid hf0
  clear hh0 hf0 h100 g0
  have hh1 := fun W => ref_has L 97 Lsz W
  rw [h97] at hh1
  have HH1 := Lib.hid hh1
  have hf1 := fun W => ref_field p (.slice AA p.arrays.length ac) bv s1 a W
  rw [g1] at hf1
  unfold irVal at hf1
  have HF1 := Lib.hid hf1
  clear hh1 hf1 h97 g1
  have hh2 := fun W => ref_has L 98 Lsz W
  rw [h98] at hh2
  have HH2 := Lib.hid hh2
  have hf2 := fun W => ref_field p (.slice AA p.arrays.length ac) bv s2 b W
  rw [g2] at hf2
  unfold irVal at hf2
  have HF2 := Lib.hid hf2
  clear hh2 hf2 h98 g2
  have hh3 := fun W => ref_has L 99 Lsz W
  rw [h99] at hh3
  have HH3 := Lib.hid hh3
  have hf3 := fun W => ref_field p (.slice AA p.arrays.length ac) bv s3 c W
  rw [g3] at hf3
  unfold irVal at hf3
  have HF3 := Lib.hid hf3
  clear hh3 hf3 h99 g3
  clear hLT Lsz
  go_enter Try.func39, Try.ntmps39
  go_wp2_with fail
  refine (HLT.out _).mono ?_
  rintro e w2 ⟨rfl, hb⟩
  have hxp := (hb.block w.heap.size (by first | (simp; done) | (simp; omega))).trans (((bnew (w.alloc (.cells #[.int .i64 p.temps, .slice AA p.arrays.length ac, bv, .int .i64 p.inp, .int .i64 p.out] 25)) _).block w.heap.size (by simp)).trans (heap_alloc_new w _))
  have hxo := (hb.block (w.heap.size + 1) (by simp)).trans (alloc_new2 w _ _)
  have HXP := Lib.hid hxp
  have HXO := Lib.hid hxo
  have HBW := Lib.hid (bch (bal (bnew _ _) _) hb)
  clear hb hxp hxo
  go_wp2_with fail
  refine wp_region_L (fun w' => Below w2.heap.size w2 w') 99 (by kernel_rfl) ?_
  have hS0 : Below w2.heap.size w2 w2.drew := Below.drew (Below.refl _ _)
  refine wpAnyL_take (i := 0) (some 9) (.string L) rfl rfl (by kernel_rfl) (by kernel_rfl) (by kernel_rfl) (by kernel_rfl) (fun _ _ _ h => h) (by rfl) ?hvx6_0 hS0 ?restx6_0
  case hvx6_0 =>
    intro wz hSz
    go_simp
  try simp only [Act.put, List.setIfInBounds_toArray, List.set_cons_zero, List.set_cons_succ]
  refine wpAnyL_take (i := 1) (some 10) (.bool false) rfl rfl (by kernel_rfl) (by kernel_rfl) (by kernel_rfl) (by kernel_rfl) (fun _ _ _ h => h) (by rfl) ?hvx6_1 hS0 ?restx6_1
  case hvx6_1 =>
    intro wz hSz
    go_simp
  try simp only [Act.put, List.setIfInBounds_toArray, List.set_cons_zero, List.set_cons_succ]
  refine wpAnyL_take (i := 2) (some 11) (.bool false) rfl rfl (by kernel_rfl) (by kernel_rfl) (by kernel_rfl) (by kernel_rfl) (fun _ _ _ h => h) (by rfl) ?hvx6_2 hS0 ?restx6_2
  case hvx6_2 =>
    intro wz hSz
    go_simp
  try simp only [Act.put, List.setIfInBounds_toArray, List.set_cons_zero, List.set_cons_succ]
  refine wpAnyL_take (i := 3) (some 12) (.agg #[.int .i64 p.temps, .slice AA p.arrays.length ac, bv, .int .i64 p.inp, .int .i64 p.out]) rfl rfl (by kernel_rfl) (by kernel_rfl) (by kernel_rfl) (by kernel_rfl) (fun _ _ _ h => h) (by rfl) ?hvx6_3 hS0 ?restx6_3
  case hvx6_3 =>
    intro wz hSz
    obtain ⟨z0, z1, z2, z3, z4, _⟩ := ir_cells_at ((hSz.block _ (lt_of_blk HXP.out)).trans HXP.out)
    go_simp
  try simp only [Act.put, List.setIfInBounds_toArray, List.set_cons_zero, List.set_cons_succ]
  refine wpAnyL_take (i := 4) (some 13) (.string L) rfl rfl (by kernel_rfl) (by kernel_rfl) (by kernel_rfl) (by kernel_rfl) (fun _ _ _ h => h) (by rfl) ?hvx6_4 hS0 ?restx6_4
  case hvx6_4 =>
    intro wz hSz
    go_simp
  try simp only [Act.put, List.setIfInBounds_toArray, List.set_cons_zero, List.set_cons_succ]
  refine wpAnyL_take (i := 6) (some 15) (.pointer (some ⟨w.heap.size + 1, 1, none⟩)) rfl rfl (by kernel_rfl) (by kernel_rfl) (by kernel_rfl) (by kernel_rfl) (fun _ _ _ h => h) (by rfl) ?hvx6_6 hS0 ?restx6_6
  case hvx6_6 =>
    intro wz hSz
    go_simp
  try simp only [Act.put, List.setIfInBounds_toArray, List.set_cons_zero, List.set_cons_succ]
  refine wpAnyL_take (i := 7) (some 16) (.int .i64 d) rfl rfl (by kernel_rfl) (by kernel_rfl) (by kernel_rfl) (by kernel_rfl) (fun _ _ _ h => h) (by rfl) ?hvx6_7 hS0 ?restx6_7
  case hvx6_7 =>
    intro wz hSz
    obtain ⟨y0, y1, y2, y3, y4, y5, _, _, _, _⟩ := op_cells_at ((hSz.block _ (lt_of_blk HXO.out)).trans HXO.out)
    go_simp
  try simp only [Act.put, List.setIfInBounds_toArray, List.set_cons_zero, List.set_cons_succ]
  refine wpAnyL_one (i := 5) (by kernel_rfl) rfl ?_
  intro K hK
  rw [if_pos (by rfl)]
  go_simp
  refine (HH0.out _).mono ?_
  rintro e w' ⟨rfl, rfl⟩
  refine hK.out _ _ (fun _ => hS0) ?_
  clear hK
  try simp only [Act.put, List.setIfInBounds_toArray, List.set_cons_zero, List.set_cons_succ]
  refine wpAnyL_one (i := 8) (by kernel_rfl) rfl ?_
  intro K hK
  rw [if_pos (by rfl)]
  go_simp
  refine (HF0.out _).mono ?_
  rintro e wc1 ⟨rfl, hb⟩
  have hS1 := bch hS0 hb
  refine hK.out _ _ (fun _ => hS1) ?_
  clear hK hb
  try simp only [Act.put, List.setIfInBounds_toArray, List.set_cons_zero, List.set_cons_succ]
  refine wpAnyL_take (i := 9) (some 18) (.bool false) rfl rfl (by kernel_rfl) (by kernel_rfl) (by kernel_rfl) (by kernel_rfl) (fun _ _ _ h => h) (by rfl) ?hvx6_9 hS1 ?restx6_9
  case hvx6_9 =>
    intro wz hSz
    go_simp
  try simp only [Act.put, List.setIfInBounds_toArray, List.set_cons_zero, List.set_cons_succ]
  refine wpAnyL_take (i := 10) (some 19) (.bool false) rfl rfl (by kernel_rfl) (by kernel_rfl) (by kernel_rfl) (by kernel_rfl) (fun _ _ _ h => h) (by rfl) ?hvx6_10 hS1 ?restx6_10
  case hvx6_10 =>
    intro wz hSz
    go_simp
  try simp only [Act.put, List.setIfInBounds_toArray, List.set_cons_zero, List.set_cons_succ]
  refine wpAnyL_take (i := 11) (some 20) (.bool false) rfl rfl (by kernel_rfl) (by kernel_rfl) (by kernel_rfl) (by kernel_rfl) (fun _ _ _ h => h) (by rfl) ?hvx6_11 hS1 ?restx6_11
  case hvx6_11 =>
    intro wz hSz
    go_simp
  try simp only [Act.put, List.setIfInBounds_toArray, List.set_cons_zero, List.set_cons_succ]
  refine wpAnyL_take (i := 12) (some 21) (.agg #[.int .i64 p.temps, .slice AA p.arrays.length ac, bv, .int .i64 p.inp, .int .i64 p.out]) rfl rfl (by kernel_rfl) (by kernel_rfl) (by kernel_rfl) (by kernel_rfl) (fun _ _ _ h => h) (by rfl) ?hvx6_12 hS1 ?restx6_12
  case hvx6_12 =>
    intro wz hSz
    obtain ⟨z0, z1, z2, z3, z4, _⟩ := ir_cells_at ((hSz.block _ (lt_of_blk HXP.out)).trans HXP.out)
    go_simp
  try simp only [Act.put, List.setIfInBounds_toArray, List.set_cons_zero, List.set_cons_succ]
  refine wpAnyL_take (i := 13) (some 22) (.string L) rfl rfl (by kernel_rfl) (by kernel_rfl) (by kernel_rfl) (by kernel_rfl) (fun _ _ _ h => h) (by rfl) ?hvx6_13 hS1 ?restx6_13
  case hvx6_13 =>
    intro wz hSz
    go_simp
  try simp only [Act.put, List.setIfInBounds_toArray, List.set_cons_zero, List.set_cons_succ]
  refine wpAnyL_take (i := 15) (some 24) (.pointer (some ⟨w.heap.size + 1, 2, none⟩)) rfl rfl (by kernel_rfl) (by kernel_rfl) (by kernel_rfl) (by kernel_rfl) (fun _ _ _ h => h) (by rfl) ?hvx6_15 hS1 ?restx6_15
  case hvx6_15 =>
    intro wz hSz
    go_simp
  try simp only [Act.put, List.setIfInBounds_toArray, List.set_cons_zero, List.set_cons_succ]
  refine wpAnyL_take (i := 16) (some 25) (.int .i64 a) rfl rfl (by kernel_rfl) (by kernel_rfl) (by kernel_rfl) (by kernel_rfl) (fun _ _ _ h => h) (by rfl) ?hvx6_16 hS1 ?restx6_16
  case hvx6_16 =>
    intro wz hSz
    obtain ⟨y0, y1, y2, y3, y4, y5, _, _, _, _⟩ := op_cells_at ((hSz.block _ (lt_of_blk HXO.out)).trans HXO.out)
    go_simp
  try simp only [Act.put, List.setIfInBounds_toArray, List.set_cons_zero, List.set_cons_succ]
  refine wpAnyL_one (i := 14) (by kernel_rfl) rfl ?_
  intro K hK
  rw [if_pos (by rfl)]
  go_simp
  refine (HH1.out _).mono ?_
  rintro e w' ⟨rfl, rfl⟩
  refine hK.out _ _ (fun _ => hS1) ?_
  clear hK
  try simp only [Act.put, List.setIfInBounds_toArray, List.set_cons_zero, List.set_cons_succ]
  refine wpAnyL_one (i := 17) (by kernel_rfl) rfl ?_
  intro K hK
  rw [if_pos (by rfl)]
  go_simp
  refine (HF1.out _).mono ?_
  rintro e wc2 ⟨rfl, hb⟩
  have hS2 := bch hS1 hb
  refine hK.out _ _ (fun _ => hS2) ?_
  clear hK hb
  try simp only [Act.put, List.setIfInBounds_toArray, List.set_cons_zero, List.set_cons_succ]
  refine wpAnyL_take (i := 18) (some 27) (.bool false) rfl rfl (by kernel_rfl) (by kernel_rfl) (by kernel_rfl) (by kernel_rfl) (fun _ _ _ h => h) (by rfl) ?hvx6_18 hS2 ?restx6_18
  case hvx6_18 =>
    intro wz hSz
    go_simp
  try simp only [Act.put, List.setIfInBounds_toArray, List.set_cons_zero, List.set_cons_succ]
  refine wpAnyL_take (i := 19) (some 28) (.bool false) rfl rfl (by kernel_rfl) (by kernel_rfl) (by kernel_rfl) (by kernel_rfl) (fun _ _ _ h => h) (by rfl) ?hvx6_19 hS2 ?restx6_19
  case hvx6_19 =>
    intro wz hSz
    go_simp
  try simp only [Act.put, List.setIfInBounds_toArray, List.set_cons_zero, List.set_cons_succ]
  refine wpAnyL_take (i := 20) (some 29) (.bool false) rfl rfl (by kernel_rfl) (by kernel_rfl) (by kernel_rfl) (by kernel_rfl) (fun _ _ _ h => h) (by rfl) ?hvx6_20 hS2 ?restx6_20
  case hvx6_20 =>
    intro wz hSz
    go_simp
  try simp only [Act.put, List.setIfInBounds_toArray, List.set_cons_zero, List.set_cons_succ]
  refine wpAnyL_take (i := 21) (some 30) (.agg #[.int .i64 p.temps, .slice AA p.arrays.length ac, bv, .int .i64 p.inp, .int .i64 p.out]) rfl rfl (by kernel_rfl) (by kernel_rfl) (by kernel_rfl) (by kernel_rfl) (fun _ _ _ h => h) (by rfl) ?hvx6_21 hS2 ?restx6_21
  case hvx6_21 =>
    intro wz hSz
    obtain ⟨z0, z1, z2, z3, z4, _⟩ := ir_cells_at ((hSz.block _ (lt_of_blk HXP.out)).trans HXP.out)
    go_simp
  try simp only [Act.put, List.setIfInBounds_toArray, List.set_cons_zero, List.set_cons_succ]
  refine wpAnyL_take (i := 22) (some 31) (.string L) rfl rfl (by kernel_rfl) (by kernel_rfl) (by kernel_rfl) (by kernel_rfl) (fun _ _ _ h => h) (by rfl) ?hvx6_22 hS2 ?restx6_22
  case hvx6_22 =>
    intro wz hSz
    go_simp
  try simp only [Act.put, List.setIfInBounds_toArray, List.set_cons_zero, List.set_cons_succ]
  refine wpAnyL_take (i := 24) (some 33) (.pointer (some ⟨w.heap.size + 1, 3, none⟩)) rfl rfl (by kernel_rfl) (by kernel_rfl) (by kernel_rfl) (by kernel_rfl) (fun _ _ _ h => h) (by rfl) ?hvx6_24 hS2 ?restx6_24
  case hvx6_24 =>
    intro wz hSz
    go_simp
  try simp only [Act.put, List.setIfInBounds_toArray, List.set_cons_zero, List.set_cons_succ]
  refine wpAnyL_take (i := 25) (some 34) (.int .i64 b) rfl rfl (by kernel_rfl) (by kernel_rfl) (by kernel_rfl) (by kernel_rfl) (fun _ _ _ h => h) (by rfl) ?hvx6_25 hS2 ?restx6_25
  case hvx6_25 =>
    intro wz hSz
    obtain ⟨y0, y1, y2, y3, y4, y5, _, _, _, _⟩ := op_cells_at ((hSz.block _ (lt_of_blk HXO.out)).trans HXO.out)
    go_simp
  try simp only [Act.put, List.setIfInBounds_toArray, List.set_cons_zero, List.set_cons_succ]
  refine wpAnyL_one (i := 23) (by kernel_rfl) rfl ?_
  intro K hK
  rw [if_pos (by rfl)]
  go_simp
  refine (HH2.out _).mono ?_
  rintro e w' ⟨rfl, rfl⟩
  refine hK.out _ _ (fun _ => hS2) ?_
  clear hK
  try simp only [Act.put, List.setIfInBounds_toArray, List.set_cons_zero, List.set_cons_succ]
  refine wpAnyL_one (i := 26) (by kernel_rfl) rfl ?_
  intro K hK
  rw [if_pos (by rfl)]
  go_simp
  refine (HF2.out _).mono ?_
  rintro e wc3 ⟨rfl, hb⟩
  have hS3 := bch hS2 hb
  refine hK.out _ _ (fun _ => hS3) ?_
  clear hK hb
  try simp only [Act.put, List.setIfInBounds_toArray, List.set_cons_zero, List.set_cons_succ]
  refine wpAnyL_take (i := 27) (some 36) (.bool false) rfl rfl (by kernel_rfl) (by kernel_rfl) (by kernel_rfl) (by kernel_rfl) (fun _ _ _ h => h) (by rfl) ?hvx6_27 hS3 ?restx6_27
  case hvx6_27 =>
    intro wz hSz
    go_simp
  try simp only [Act.put, List.setIfInBounds_toArray, List.set_cons_zero, List.set_cons_succ]
  refine wpAnyL_take (i := 28) (some 37) (.bool false) rfl rfl (by kernel_rfl) (by kernel_rfl) (by kernel_rfl) (by kernel_rfl) (fun _ _ _ h => h) (by rfl) ?hvx6_28 hS3 ?restx6_28
  case hvx6_28 =>
    intro wz hSz
    go_simp
  try simp only [Act.put, List.setIfInBounds_toArray, List.set_cons_zero, List.set_cons_succ]
  refine wpAnyL_take (i := 29) (some 38) (.bool false) rfl rfl (by kernel_rfl) (by kernel_rfl) (by kernel_rfl) (by kernel_rfl) (fun _ _ _ h => h) (by rfl) ?hvx6_29 hS3 ?restx6_29
  case hvx6_29 =>
    intro wz hSz
    go_simp
  try simp only [Act.put, List.setIfInBounds_toArray, List.set_cons_zero, List.set_cons_succ]
  refine wpAnyL_take (i := 30) (some 39) (.agg #[.int .i64 p.temps, .slice AA p.arrays.length ac, bv, .int .i64 p.inp, .int .i64 p.out]) rfl rfl (by kernel_rfl) (by kernel_rfl) (by kernel_rfl) (by kernel_rfl) (fun _ _ _ h => h) (by rfl) ?hvx6_30 hS3 ?restx6_30
  case hvx6_30 =>
    intro wz hSz
    obtain ⟨z0, z1, z2, z3, z4, _⟩ := ir_cells_at ((hSz.block _ (lt_of_blk HXP.out)).trans HXP.out)
    go_simp
  try simp only [Act.put, List.setIfInBounds_toArray, List.set_cons_zero, List.set_cons_succ]
  refine wpAnyL_take (i := 31) (some 40) (.string L) rfl rfl (by kernel_rfl) (by kernel_rfl) (by kernel_rfl) (by kernel_rfl) (fun _ _ _ h => h) (by rfl) ?hvx6_31 hS3 ?restx6_31
  case hvx6_31 =>
    intro wz hSz
    go_simp
  try simp only [Act.put, List.setIfInBounds_toArray, List.set_cons_zero, List.set_cons_succ]
  refine wpAnyL_take (i := 33) (some 42) (.pointer (some ⟨w.heap.size + 1, 4, none⟩)) rfl rfl (by kernel_rfl) (by kernel_rfl) (by kernel_rfl) (by kernel_rfl) (fun _ _ _ h => h) (by rfl) ?hvx6_33 hS3 ?restx6_33
  case hvx6_33 =>
    intro wz hSz
    go_simp
  try simp only [Act.put, List.setIfInBounds_toArray, List.set_cons_zero, List.set_cons_succ]
  refine wpAnyL_take (i := 34) (some 43) (.int .i64 c) rfl rfl (by kernel_rfl) (by kernel_rfl) (by kernel_rfl) (by kernel_rfl) (fun _ _ _ h => h) (by rfl) ?hvx6_34 hS3 ?restx6_34
  case hvx6_34 =>
    intro wz hSz
    obtain ⟨y0, y1, y2, y3, y4, y5, _, _, _, _⟩ := op_cells_at ((hSz.block _ (lt_of_blk HXO.out)).trans HXO.out)
    go_simp
  try simp only [Act.put, List.setIfInBounds_toArray, List.set_cons_zero, List.set_cons_succ]
  refine wpAnyL_one (i := 32) (by kernel_rfl) rfl ?_
  intro K hK
  rw [if_pos (by rfl)]
  go_simp
  refine (HH3.out _).mono ?_
  rintro e w' ⟨rfl, rfl⟩
  refine hK.out _ _ (fun _ => hS3) ?_
  clear hK
  try simp only [Act.put, List.setIfInBounds_toArray, List.set_cons_zero, List.set_cons_succ]
  refine wpAnyL_one (i := 35) (by kernel_rfl) rfl ?_
  intro K hK
  rw [if_pos (by rfl)]
  go_simp
  refine (HF3.out _).mono ?_
  rintro e wc4 ⟨rfl, hb⟩
  have hS4 := bch hS3 hb
  refine hK.out _ _ (fun _ => hS4) ?_
  clear hK hb
  try simp only [Act.put, List.setIfInBounds_toArray, List.set_cons_zero, List.set_cons_succ]
  refine wpAnyL_take (i := 36) (some 45) (.bool false) rfl rfl (by kernel_rfl) (by kernel_rfl) (by kernel_rfl) (by kernel_rfl) (fun _ _ _ h => h) (by rfl) ?hvx6_36 hS4 ?restx6_36
  case hvx6_36 =>
    intro wz hSz
    go_simp
  try simp only [Act.put, List.setIfInBounds_toArray, List.set_cons_zero, List.set_cons_succ]
  refine wpAnyL_take (i := 37) (some 46) (.bool false) rfl rfl (by kernel_rfl) (by kernel_rfl) (by kernel_rfl) (by kernel_rfl) (fun _ _ _ h => h) (by rfl) ?hvx6_37 hS4 ?restx6_37
  case hvx6_37 =>
    intro wz hSz
    go_simp
  try simp only [Act.put, List.setIfInBounds_toArray, List.set_cons_zero, List.set_cons_succ]
  refine wpAnyL_take (i := 38) (some 47) (.bool false) rfl rfl (by kernel_rfl) (by kernel_rfl) (by kernel_rfl) (by kernel_rfl) (fun _ _ _ h => h) (by rfl) ?hvx6_38 hS4 ?restx6_38
  case hvx6_38 =>
    intro wz hSz
    go_simp
  try simp only [Act.put, List.setIfInBounds_toArray, List.set_cons_zero, List.set_cons_succ]
  refine wpAnyL_take (i := 39) (some 48) (.pointer (some ⟨w.heap.size + 1, 5, none⟩)) rfl rfl (by kernel_rfl) (by kernel_rfl) (by kernel_rfl) (by kernel_rfl) (fun _ _ _ h => h) (by rfl) ?hvx6_39 hS4 ?restx6_39
  case hvx6_39 =>
    intro wz hSz
    go_simp
  try simp only [Act.put, List.setIfInBounds_toArray, List.set_cons_zero, List.set_cons_succ]
  refine wpAnyL_take (i := 40) (some 49) (.int .i64 i) rfl rfl (by kernel_rfl) (by kernel_rfl) (by kernel_rfl) (by kernel_rfl) (fun _ _ _ h => h) (by rfl) ?hvx6_40 hS4 ?restx6_40
  case hvx6_40 =>
    intro wz hSz
    obtain ⟨y0, y1, y2, y3, y4, y5, _, _, _, _⟩ := op_cells_at ((hSz.block _ (lt_of_blk HXO.out)).trans HXO.out)
    go_simp
  try simp only [Act.put, List.setIfInBounds_toArray, List.set_cons_zero, List.set_cons_succ]
  refine wpAnyL_take (i := 41) (some 50) (.bool true) rfl rfl (by kernel_rfl) (by kernel_rfl) (by kernel_rfl) (by kernel_rfl) (fun _ _ _ h => h) (by rfl) ?hvx6_41 hS4 ?restx6_41
  case hvx6_41 =>
    intro wz hSz
    go_simp
  try simp only [Act.put, List.setIfInBounds_toArray, List.set_cons_zero, List.set_cons_succ]
  refine wpAnyL_take (i := 42) (some 51) (.bool true) rfl rfl (by kernel_rfl) (by kernel_rfl) (by kernel_rfl) (by kernel_rfl) (fun _ _ _ h => h) (by rfl) ?hvx6_42 hS4 ?restx6_42
  case hvx6_42 =>
    intro wz hSz
    go_simp
  try simp only [Act.put, List.setIfInBounds_toArray, List.set_cons_zero, List.set_cons_succ]
  refine wpAnyL_done (by kernel_rfl) ?_ _
  have HSW := Lib.hid hS4
  obtain ⟨y0, y1, y2, y3, y4, y5, _, _, _, _⟩ := op_cells_at ((hS4.block _ (lt_of_blk HXO.out)).trans HXO.out)
  obtain ⟨z0, z1, z2, z3, z4, _⟩ := ir_cells_at ((hS4.block _ (lt_of_blk HXP.out)).trans HXP.out)
  go_wp2_with fail
  go_ret
  exact ⟨rfl, bch HBW.out HSW.out⟩
set_option maxHeartbeats 8000000 in
set_option maxRecDepth 100000 in
theorem ref_op_n (p : Ir) (AA : Option Addr) (ac : Nat) (bv : Value) (k d a b c i : Int) (L : ByteArray) (fd s1 s2 s3 : Bool) (qL : (L == ⟨#[]⟩) = false) (qL2 : (L.toList == ByteArray.toList ⟨#[]⟩) = false) (qL3 : (L.toList == []) = false) (Lsz : L.size ≤ 1000000) (h100 : hasC L 100 = fd) (h97 : hasC L 97 = s1) (h98 : hasC L 98 = s2) (h99 : hasC L 99 = s3) (g0 : decide (fieldP p fd d) = true) (g1 : decide (fieldP p s1 a) = true) (g2 : decide (fieldP p s2 b) = true) (g3 : decide (fieldP p s3 c) = true) (hi : 0 ≤ i) (q110 : hasC L 110 = true) (hLT : ∀ W, Calls Try.prog 54 #[.int .i64 k] W fun e w' => e = .returned (.string L) ∧ Below W.heap.size W w') (w : World) :
    Calls Try.prog 39 #[.agg #[.int .i64 p.temps, .slice AA p.arrays.length ac, bv, .int .i64 p.inp, .int .i64 p.out], .agg #[.int .i64 k, .int .i64 d, .int .i64 a, .int .i64 b, .int .i64 c, .int .i64 i]] w fun e w' => e = .returned (.bool (decide (i ≤ 4294967295))) ∧ Below w.heap.size w w' := by
  have hq110 := fun W => ref_has L 110 Lsz W
  rw [q110] at hq110
  have HQ110 := Lib.hid hq110
  clear hq110 q110
  have HLT := Lib.hid hLT
  have hh0 := fun W => ref_has L 100 Lsz W
  rw [h100] at hh0
  have HH0 := Lib.hid hh0
  have hf0 := fun W => ref_field p (.slice AA p.arrays.length ac) bv fd d W
  rw [g0] at hf0
  unfold irVal at hf0
  have HF0 := Lib.hid hf0
  clear hh0 hf0 h100 g0
  have hh1 := fun W => ref_has L 97 Lsz W
  rw [h97] at hh1
  have HH1 := Lib.hid hh1
  have hf1 := fun W => ref_field p (.slice AA p.arrays.length ac) bv s1 a W
  rw [g1] at hf1
  unfold irVal at hf1
  have HF1 := Lib.hid hf1
  clear hh1 hf1 h97 g1
  have hh2 := fun W => ref_has L 98 Lsz W
  rw [h98] at hh2
  have HH2 := Lib.hid hh2
  have hf2 := fun W => ref_field p (.slice AA p.arrays.length ac) bv s2 b W
  rw [g2] at hf2
  unfold irVal at hf2
  have HF2 := Lib.hid hf2
  clear hh2 hf2 h98 g2
  have hh3 := fun W => ref_has L 99 Lsz W
  rw [h99] at hh3
  have HH3 := Lib.hid hh3
  have hf3 := fun W => ref_field p (.slice AA p.arrays.length ac) bv s3 c W
  rw [g3] at hf3
  unfold irVal at hf3
  have HF3 := Lib.hid hf3
  clear hh3 hf3 h99 g3
  clear hLT Lsz
  go_enter Try.func39, Try.ntmps39
  go_wp2_with fail
  refine (HLT.out _).mono ?_
  rintro e w2 ⟨rfl, hb⟩
  have hxp := (hb.block w.heap.size (by first | (simp; done) | (simp; omega))).trans (((bnew (w.alloc (.cells #[.int .i64 p.temps, .slice AA p.arrays.length ac, bv, .int .i64 p.inp, .int .i64 p.out] 25)) _).block w.heap.size (by simp)).trans (heap_alloc_new w _))
  have hxo := (hb.block (w.heap.size + 1) (by simp)).trans (alloc_new2 w _ _)
  have HXP := Lib.hid hxp
  have HXO := Lib.hid hxo
  have HBW := Lib.hid (bch (bal (bnew _ _) _) hb)
  clear hb hxp hxo
  go_wp2_with fail
  refine wp_region_L (fun w' => Below w2.heap.size w2 w') 99 (by kernel_rfl) ?_
  have hS0 : Below w2.heap.size w2 w2.drew := Below.drew (Below.refl _ _)
  refine wpAnyL_take (i := 0) (some 9) (.string L) rfl rfl (by kernel_rfl) (by kernel_rfl) (by kernel_rfl) (by kernel_rfl) (fun _ _ _ h => h) (by rfl) ?hvx7_0 hS0 ?restx7_0
  case hvx7_0 =>
    intro wz hSz
    go_simp
  try simp only [Act.put, List.setIfInBounds_toArray, List.set_cons_zero, List.set_cons_succ]
  refine wpAnyL_take (i := 1) (some 10) (.bool false) rfl rfl (by kernel_rfl) (by kernel_rfl) (by kernel_rfl) (by kernel_rfl) (fun _ _ _ h => h) (by rfl) ?hvx7_1 hS0 ?restx7_1
  case hvx7_1 =>
    intro wz hSz
    go_simp
  try simp only [Act.put, List.setIfInBounds_toArray, List.set_cons_zero, List.set_cons_succ]
  refine wpAnyL_take (i := 2) (some 11) (.bool false) rfl rfl (by kernel_rfl) (by kernel_rfl) (by kernel_rfl) (by kernel_rfl) (fun _ _ _ h => h) (by rfl) ?hvx7_2 hS0 ?restx7_2
  case hvx7_2 =>
    intro wz hSz
    go_simp
  try simp only [Act.put, List.setIfInBounds_toArray, List.set_cons_zero, List.set_cons_succ]
  refine wpAnyL_take (i := 3) (some 12) (.agg #[.int .i64 p.temps, .slice AA p.arrays.length ac, bv, .int .i64 p.inp, .int .i64 p.out]) rfl rfl (by kernel_rfl) (by kernel_rfl) (by kernel_rfl) (by kernel_rfl) (fun _ _ _ h => h) (by rfl) ?hvx7_3 hS0 ?restx7_3
  case hvx7_3 =>
    intro wz hSz
    obtain ⟨z0, z1, z2, z3, z4, _⟩ := ir_cells_at ((hSz.block _ (lt_of_blk HXP.out)).trans HXP.out)
    go_simp
  try simp only [Act.put, List.setIfInBounds_toArray, List.set_cons_zero, List.set_cons_succ]
  refine wpAnyL_take (i := 4) (some 13) (.string L) rfl rfl (by kernel_rfl) (by kernel_rfl) (by kernel_rfl) (by kernel_rfl) (fun _ _ _ h => h) (by rfl) ?hvx7_4 hS0 ?restx7_4
  case hvx7_4 =>
    intro wz hSz
    go_simp
  try simp only [Act.put, List.setIfInBounds_toArray, List.set_cons_zero, List.set_cons_succ]
  refine wpAnyL_take (i := 6) (some 15) (.pointer (some ⟨w.heap.size + 1, 1, none⟩)) rfl rfl (by kernel_rfl) (by kernel_rfl) (by kernel_rfl) (by kernel_rfl) (fun _ _ _ h => h) (by rfl) ?hvx7_6 hS0 ?restx7_6
  case hvx7_6 =>
    intro wz hSz
    go_simp
  try simp only [Act.put, List.setIfInBounds_toArray, List.set_cons_zero, List.set_cons_succ]
  refine wpAnyL_take (i := 7) (some 16) (.int .i64 d) rfl rfl (by kernel_rfl) (by kernel_rfl) (by kernel_rfl) (by kernel_rfl) (fun _ _ _ h => h) (by rfl) ?hvx7_7 hS0 ?restx7_7
  case hvx7_7 =>
    intro wz hSz
    obtain ⟨y0, y1, y2, y3, y4, y5, _, _, _, _⟩ := op_cells_at ((hSz.block _ (lt_of_blk HXO.out)).trans HXO.out)
    go_simp
  try simp only [Act.put, List.setIfInBounds_toArray, List.set_cons_zero, List.set_cons_succ]
  refine wpAnyL_one (i := 5) (by kernel_rfl) rfl ?_
  intro K hK
  rw [if_pos (by rfl)]
  go_simp
  refine (HH0.out _).mono ?_
  rintro e w' ⟨rfl, rfl⟩
  refine hK.out _ _ (fun _ => hS0) ?_
  clear hK
  try simp only [Act.put, List.setIfInBounds_toArray, List.set_cons_zero, List.set_cons_succ]
  refine wpAnyL_one (i := 8) (by kernel_rfl) rfl ?_
  intro K hK
  rw [if_pos (by rfl)]
  go_simp
  refine (HF0.out _).mono ?_
  rintro e wc1 ⟨rfl, hb⟩
  have hS1 := bch hS0 hb
  refine hK.out _ _ (fun _ => hS1) ?_
  clear hK hb
  try simp only [Act.put, List.setIfInBounds_toArray, List.set_cons_zero, List.set_cons_succ]
  refine wpAnyL_take (i := 9) (some 18) (.bool false) rfl rfl (by kernel_rfl) (by kernel_rfl) (by kernel_rfl) (by kernel_rfl) (fun _ _ _ h => h) (by rfl) ?hvx7_9 hS1 ?restx7_9
  case hvx7_9 =>
    intro wz hSz
    go_simp
  try simp only [Act.put, List.setIfInBounds_toArray, List.set_cons_zero, List.set_cons_succ]
  refine wpAnyL_take (i := 10) (some 19) (.bool false) rfl rfl (by kernel_rfl) (by kernel_rfl) (by kernel_rfl) (by kernel_rfl) (fun _ _ _ h => h) (by rfl) ?hvx7_10 hS1 ?restx7_10
  case hvx7_10 =>
    intro wz hSz
    go_simp
  try simp only [Act.put, List.setIfInBounds_toArray, List.set_cons_zero, List.set_cons_succ]
  refine wpAnyL_take (i := 11) (some 20) (.bool false) rfl rfl (by kernel_rfl) (by kernel_rfl) (by kernel_rfl) (by kernel_rfl) (fun _ _ _ h => h) (by rfl) ?hvx7_11 hS1 ?restx7_11
  case hvx7_11 =>
    intro wz hSz
    go_simp
  try simp only [Act.put, List.setIfInBounds_toArray, List.set_cons_zero, List.set_cons_succ]
  refine wpAnyL_take (i := 12) (some 21) (.agg #[.int .i64 p.temps, .slice AA p.arrays.length ac, bv, .int .i64 p.inp, .int .i64 p.out]) rfl rfl (by kernel_rfl) (by kernel_rfl) (by kernel_rfl) (by kernel_rfl) (fun _ _ _ h => h) (by rfl) ?hvx7_12 hS1 ?restx7_12
  case hvx7_12 =>
    intro wz hSz
    obtain ⟨z0, z1, z2, z3, z4, _⟩ := ir_cells_at ((hSz.block _ (lt_of_blk HXP.out)).trans HXP.out)
    go_simp
  try simp only [Act.put, List.setIfInBounds_toArray, List.set_cons_zero, List.set_cons_succ]
  refine wpAnyL_take (i := 13) (some 22) (.string L) rfl rfl (by kernel_rfl) (by kernel_rfl) (by kernel_rfl) (by kernel_rfl) (fun _ _ _ h => h) (by rfl) ?hvx7_13 hS1 ?restx7_13
  case hvx7_13 =>
    intro wz hSz
    go_simp
  try simp only [Act.put, List.setIfInBounds_toArray, List.set_cons_zero, List.set_cons_succ]
  refine wpAnyL_take (i := 15) (some 24) (.pointer (some ⟨w.heap.size + 1, 2, none⟩)) rfl rfl (by kernel_rfl) (by kernel_rfl) (by kernel_rfl) (by kernel_rfl) (fun _ _ _ h => h) (by rfl) ?hvx7_15 hS1 ?restx7_15
  case hvx7_15 =>
    intro wz hSz
    go_simp
  try simp only [Act.put, List.setIfInBounds_toArray, List.set_cons_zero, List.set_cons_succ]
  refine wpAnyL_take (i := 16) (some 25) (.int .i64 a) rfl rfl (by kernel_rfl) (by kernel_rfl) (by kernel_rfl) (by kernel_rfl) (fun _ _ _ h => h) (by rfl) ?hvx7_16 hS1 ?restx7_16
  case hvx7_16 =>
    intro wz hSz
    obtain ⟨y0, y1, y2, y3, y4, y5, _, _, _, _⟩ := op_cells_at ((hSz.block _ (lt_of_blk HXO.out)).trans HXO.out)
    go_simp
  try simp only [Act.put, List.setIfInBounds_toArray, List.set_cons_zero, List.set_cons_succ]
  refine wpAnyL_one (i := 14) (by kernel_rfl) rfl ?_
  intro K hK
  rw [if_pos (by rfl)]
  go_simp
  refine (HH1.out _).mono ?_
  rintro e w' ⟨rfl, rfl⟩
  refine hK.out _ _ (fun _ => hS1) ?_
  clear hK
  try simp only [Act.put, List.setIfInBounds_toArray, List.set_cons_zero, List.set_cons_succ]
  refine wpAnyL_one (i := 17) (by kernel_rfl) rfl ?_
  intro K hK
  rw [if_pos (by rfl)]
  go_simp
  refine (HF1.out _).mono ?_
  rintro e wc2 ⟨rfl, hb⟩
  have hS2 := bch hS1 hb
  refine hK.out _ _ (fun _ => hS2) ?_
  clear hK hb
  try simp only [Act.put, List.setIfInBounds_toArray, List.set_cons_zero, List.set_cons_succ]
  refine wpAnyL_take (i := 18) (some 27) (.bool false) rfl rfl (by kernel_rfl) (by kernel_rfl) (by kernel_rfl) (by kernel_rfl) (fun _ _ _ h => h) (by rfl) ?hvx7_18 hS2 ?restx7_18
  case hvx7_18 =>
    intro wz hSz
    go_simp
  try simp only [Act.put, List.setIfInBounds_toArray, List.set_cons_zero, List.set_cons_succ]
  refine wpAnyL_take (i := 19) (some 28) (.bool false) rfl rfl (by kernel_rfl) (by kernel_rfl) (by kernel_rfl) (by kernel_rfl) (fun _ _ _ h => h) (by rfl) ?hvx7_19 hS2 ?restx7_19
  case hvx7_19 =>
    intro wz hSz
    go_simp
  try simp only [Act.put, List.setIfInBounds_toArray, List.set_cons_zero, List.set_cons_succ]
  refine wpAnyL_take (i := 20) (some 29) (.bool false) rfl rfl (by kernel_rfl) (by kernel_rfl) (by kernel_rfl) (by kernel_rfl) (fun _ _ _ h => h) (by rfl) ?hvx7_20 hS2 ?restx7_20
  case hvx7_20 =>
    intro wz hSz
    go_simp
  try simp only [Act.put, List.setIfInBounds_toArray, List.set_cons_zero, List.set_cons_succ]
  refine wpAnyL_take (i := 21) (some 30) (.agg #[.int .i64 p.temps, .slice AA p.arrays.length ac, bv, .int .i64 p.inp, .int .i64 p.out]) rfl rfl (by kernel_rfl) (by kernel_rfl) (by kernel_rfl) (by kernel_rfl) (fun _ _ _ h => h) (by rfl) ?hvx7_21 hS2 ?restx7_21
  case hvx7_21 =>
    intro wz hSz
    obtain ⟨z0, z1, z2, z3, z4, _⟩ := ir_cells_at ((hSz.block _ (lt_of_blk HXP.out)).trans HXP.out)
    go_simp
  try simp only [Act.put, List.setIfInBounds_toArray, List.set_cons_zero, List.set_cons_succ]
  refine wpAnyL_take (i := 22) (some 31) (.string L) rfl rfl (by kernel_rfl) (by kernel_rfl) (by kernel_rfl) (by kernel_rfl) (fun _ _ _ h => h) (by rfl) ?hvx7_22 hS2 ?restx7_22
  case hvx7_22 =>
    intro wz hSz
    go_simp
  try simp only [Act.put, List.setIfInBounds_toArray, List.set_cons_zero, List.set_cons_succ]
  refine wpAnyL_take (i := 24) (some 33) (.pointer (some ⟨w.heap.size + 1, 3, none⟩)) rfl rfl (by kernel_rfl) (by kernel_rfl) (by kernel_rfl) (by kernel_rfl) (fun _ _ _ h => h) (by rfl) ?hvx7_24 hS2 ?restx7_24
  case hvx7_24 =>
    intro wz hSz
    go_simp
  try simp only [Act.put, List.setIfInBounds_toArray, List.set_cons_zero, List.set_cons_succ]
  refine wpAnyL_take (i := 25) (some 34) (.int .i64 b) rfl rfl (by kernel_rfl) (by kernel_rfl) (by kernel_rfl) (by kernel_rfl) (fun _ _ _ h => h) (by rfl) ?hvx7_25 hS2 ?restx7_25
  case hvx7_25 =>
    intro wz hSz
    obtain ⟨y0, y1, y2, y3, y4, y5, _, _, _, _⟩ := op_cells_at ((hSz.block _ (lt_of_blk HXO.out)).trans HXO.out)
    go_simp
  try simp only [Act.put, List.setIfInBounds_toArray, List.set_cons_zero, List.set_cons_succ]
  refine wpAnyL_one (i := 23) (by kernel_rfl) rfl ?_
  intro K hK
  rw [if_pos (by rfl)]
  go_simp
  refine (HH2.out _).mono ?_
  rintro e w' ⟨rfl, rfl⟩
  refine hK.out _ _ (fun _ => hS2) ?_
  clear hK
  try simp only [Act.put, List.setIfInBounds_toArray, List.set_cons_zero, List.set_cons_succ]
  refine wpAnyL_one (i := 26) (by kernel_rfl) rfl ?_
  intro K hK
  rw [if_pos (by rfl)]
  go_simp
  refine (HF2.out _).mono ?_
  rintro e wc3 ⟨rfl, hb⟩
  have hS3 := bch hS2 hb
  refine hK.out _ _ (fun _ => hS3) ?_
  clear hK hb
  try simp only [Act.put, List.setIfInBounds_toArray, List.set_cons_zero, List.set_cons_succ]
  refine wpAnyL_take (i := 27) (some 36) (.bool false) rfl rfl (by kernel_rfl) (by kernel_rfl) (by kernel_rfl) (by kernel_rfl) (fun _ _ _ h => h) (by rfl) ?hvx7_27 hS3 ?restx7_27
  case hvx7_27 =>
    intro wz hSz
    go_simp
  try simp only [Act.put, List.setIfInBounds_toArray, List.set_cons_zero, List.set_cons_succ]
  refine wpAnyL_take (i := 28) (some 37) (.bool false) rfl rfl (by kernel_rfl) (by kernel_rfl) (by kernel_rfl) (by kernel_rfl) (fun _ _ _ h => h) (by rfl) ?hvx7_28 hS3 ?restx7_28
  case hvx7_28 =>
    intro wz hSz
    go_simp
  try simp only [Act.put, List.setIfInBounds_toArray, List.set_cons_zero, List.set_cons_succ]
  refine wpAnyL_take (i := 29) (some 38) (.bool false) rfl rfl (by kernel_rfl) (by kernel_rfl) (by kernel_rfl) (by kernel_rfl) (fun _ _ _ h => h) (by rfl) ?hvx7_29 hS3 ?restx7_29
  case hvx7_29 =>
    intro wz hSz
    go_simp
  try simp only [Act.put, List.setIfInBounds_toArray, List.set_cons_zero, List.set_cons_succ]
  refine wpAnyL_take (i := 30) (some 39) (.agg #[.int .i64 p.temps, .slice AA p.arrays.length ac, bv, .int .i64 p.inp, .int .i64 p.out]) rfl rfl (by kernel_rfl) (by kernel_rfl) (by kernel_rfl) (by kernel_rfl) (fun _ _ _ h => h) (by rfl) ?hvx7_30 hS3 ?restx7_30
  case hvx7_30 =>
    intro wz hSz
    obtain ⟨z0, z1, z2, z3, z4, _⟩ := ir_cells_at ((hSz.block _ (lt_of_blk HXP.out)).trans HXP.out)
    go_simp
  try simp only [Act.put, List.setIfInBounds_toArray, List.set_cons_zero, List.set_cons_succ]
  refine wpAnyL_take (i := 31) (some 40) (.string L) rfl rfl (by kernel_rfl) (by kernel_rfl) (by kernel_rfl) (by kernel_rfl) (fun _ _ _ h => h) (by rfl) ?hvx7_31 hS3 ?restx7_31
  case hvx7_31 =>
    intro wz hSz
    go_simp
  try simp only [Act.put, List.setIfInBounds_toArray, List.set_cons_zero, List.set_cons_succ]
  refine wpAnyL_take (i := 33) (some 42) (.pointer (some ⟨w.heap.size + 1, 4, none⟩)) rfl rfl (by kernel_rfl) (by kernel_rfl) (by kernel_rfl) (by kernel_rfl) (fun _ _ _ h => h) (by rfl) ?hvx7_33 hS3 ?restx7_33
  case hvx7_33 =>
    intro wz hSz
    go_simp
  try simp only [Act.put, List.setIfInBounds_toArray, List.set_cons_zero, List.set_cons_succ]
  refine wpAnyL_take (i := 34) (some 43) (.int .i64 c) rfl rfl (by kernel_rfl) (by kernel_rfl) (by kernel_rfl) (by kernel_rfl) (fun _ _ _ h => h) (by rfl) ?hvx7_34 hS3 ?restx7_34
  case hvx7_34 =>
    intro wz hSz
    obtain ⟨y0, y1, y2, y3, y4, y5, _, _, _, _⟩ := op_cells_at ((hSz.block _ (lt_of_blk HXO.out)).trans HXO.out)
    go_simp
  try simp only [Act.put, List.setIfInBounds_toArray, List.set_cons_zero, List.set_cons_succ]
  refine wpAnyL_one (i := 32) (by kernel_rfl) rfl ?_
  intro K hK
  rw [if_pos (by rfl)]
  go_simp
  refine (HH3.out _).mono ?_
  rintro e w' ⟨rfl, rfl⟩
  refine hK.out _ _ (fun _ => hS3) ?_
  clear hK
  try simp only [Act.put, List.setIfInBounds_toArray, List.set_cons_zero, List.set_cons_succ]
  refine wpAnyL_one (i := 35) (by kernel_rfl) rfl ?_
  intro K hK
  rw [if_pos (by rfl)]
  go_simp
  refine (HF3.out _).mono ?_
  rintro e wc4 ⟨rfl, hb⟩
  have hS4 := bch hS3 hb
  refine hK.out _ _ (fun _ => hS4) ?_
  clear hK hb
  try simp only [Act.put, List.setIfInBounds_toArray, List.set_cons_zero, List.set_cons_succ]
  refine wpAnyL_take (i := 36) (some 45) (.bool false) rfl rfl (by kernel_rfl) (by kernel_rfl) (by kernel_rfl) (by kernel_rfl) (fun _ _ _ h => h) (by rfl) ?hvx7_36 hS4 ?restx7_36
  case hvx7_36 =>
    intro wz hSz
    go_simp
  try simp only [Act.put, List.setIfInBounds_toArray, List.set_cons_zero, List.set_cons_succ]
  refine wpAnyL_take (i := 37) (some 46) (.bool false) rfl rfl (by kernel_rfl) (by kernel_rfl) (by kernel_rfl) (by kernel_rfl) (fun _ _ _ h => h) (by rfl) ?hvx7_37 hS4 ?restx7_37
  case hvx7_37 =>
    intro wz hSz
    go_simp
  try simp only [Act.put, List.setIfInBounds_toArray, List.set_cons_zero, List.set_cons_succ]
  refine wpAnyL_take (i := 38) (some 47) (.bool false) rfl rfl (by kernel_rfl) (by kernel_rfl) (by kernel_rfl) (by kernel_rfl) (fun _ _ _ h => h) (by rfl) ?hvx7_38 hS4 ?restx7_38
  case hvx7_38 =>
    intro wz hSz
    go_simp
  try simp only [Act.put, List.setIfInBounds_toArray, List.set_cons_zero, List.set_cons_succ]
  refine wpAnyL_take (i := 39) (some 48) (.pointer (some ⟨w.heap.size + 1, 5, none⟩)) rfl rfl (by kernel_rfl) (by kernel_rfl) (by kernel_rfl) (by kernel_rfl) (fun _ _ _ h => h) (by rfl) ?hvx7_39 hS4 ?restx7_39
  case hvx7_39 =>
    intro wz hSz
    go_simp
  try simp only [Act.put, List.setIfInBounds_toArray, List.set_cons_zero, List.set_cons_succ]
  refine wpAnyL_take (i := 40) (some 49) (.int .i64 i) rfl rfl (by kernel_rfl) (by kernel_rfl) (by kernel_rfl) (by kernel_rfl) (fun _ _ _ h => h) (by rfl) ?hvx7_40 hS4 ?restx7_40
  case hvx7_40 =>
    intro wz hSz
    obtain ⟨y0, y1, y2, y3, y4, y5, _, _, _, _⟩ := op_cells_at ((hSz.block _ (lt_of_blk HXO.out)).trans HXO.out)
    go_simp
  try simp only [Act.put, List.setIfInBounds_toArray, List.set_cons_zero, List.set_cons_succ]
  refine wpAnyL_take (i := 41) (some 50) (.bool false) rfl rfl (by kernel_rfl) (by kernel_rfl) (by kernel_rfl) (by kernel_rfl) (fun _ _ _ h => h) (by rfl) ?hvx7_41 hS4 ?restx7_41
  case hvx7_41 =>
    intro wz hSz
    go_simp
  try simp only [Act.put, List.setIfInBounds_toArray, List.set_cons_zero, List.set_cons_succ]
  refine wpAnyL_take (i := 42) (some 51) (.bool false) rfl rfl (by kernel_rfl) (by kernel_rfl) (by kernel_rfl) (by kernel_rfl) (fun _ _ _ h => h) (by rfl) ?hvx7_42 hS4 ?restx7_42
  case hvx7_42 =>
    intro wz hSz
    go_simp
  try simp only [Act.put, List.setIfInBounds_toArray, List.set_cons_zero, List.set_cons_succ]
  refine wpAnyL_done (by kernel_rfl) ?_ _
  have HSW := Lib.hid hS4
  obtain ⟨y0, y1, y2, y3, y4, y5, _, _, _, _⟩ := op_cells_at ((hS4.block _ (lt_of_blk HXO.out)).trans HXO.out)
  obtain ⟨z0, z1, z2, z3, z4, _⟩ := ir_cells_at ((hS4.block _ (lt_of_blk HXP.out)).trans HXP.out)
  go_wp2_with fail
  refine (HQ110.out _).mono ?_
  rintro e w' ⟨rfl, rfl⟩
  go_wp2_with fail
  go_ret
  exact ⟨rfl, bch HBW.out HSW.out⟩
set_option maxHeartbeats 8000000 in
set_option maxRecDepth 100000 in
theorem ref_op_s (p : Ir) (AA : Option Addr) (ac : Nat) (bv : Value) (k d a b c i : Int) (L : ByteArray) (fd s1 s2 s3 : Bool) (qL : (L == ⟨#[]⟩) = false) (qL2 : (L.toList == ByteArray.toList ⟨#[]⟩) = false) (qL3 : (L.toList == []) = false) (Lsz : L.size ≤ 1000000) (h100 : hasC L 100 = fd) (h97 : hasC L 97 = s1) (h98 : hasC L 98 = s2) (h99 : hasC L 99 = s3) (g0 : decide (fieldP p fd d) = true) (g1 : decide (fieldP p s1 a) = true) (g2 : decide (fieldP p s2 b) = true) (g3 : decide (fieldP p s3 c) = true) (hi : 0 ≤ i) (q110 : hasC L 110 = false) (q115 : hasC L 115 = true) (hLT : ∀ W, Calls Try.prog 54 #[.int .i64 k] W fun e w' => e = .returned (.string L) ∧ Below W.heap.size W w') (w : World) :
    Calls Try.prog 39 #[.agg #[.int .i64 p.temps, .slice AA p.arrays.length ac, bv, .int .i64 p.inp, .int .i64 p.out], .agg #[.int .i64 k, .int .i64 d, .int .i64 a, .int .i64 b, .int .i64 c, .int .i64 i]] w fun e w' => e = .returned (.bool (decide (i < 32))) ∧ Below w.heap.size w w' := by
  have hq110 := fun W => ref_has L 110 Lsz W
  rw [q110] at hq110
  have HQ110 := Lib.hid hq110
  clear hq110 q110
  have hq115 := fun W => ref_has L 115 Lsz W
  rw [q115] at hq115
  have HQ115 := Lib.hid hq115
  clear hq115 q115
  have HLT := Lib.hid hLT
  have hh0 := fun W => ref_has L 100 Lsz W
  rw [h100] at hh0
  have HH0 := Lib.hid hh0
  have hf0 := fun W => ref_field p (.slice AA p.arrays.length ac) bv fd d W
  rw [g0] at hf0
  unfold irVal at hf0
  have HF0 := Lib.hid hf0
  clear hh0 hf0 h100 g0
  have hh1 := fun W => ref_has L 97 Lsz W
  rw [h97] at hh1
  have HH1 := Lib.hid hh1
  have hf1 := fun W => ref_field p (.slice AA p.arrays.length ac) bv s1 a W
  rw [g1] at hf1
  unfold irVal at hf1
  have HF1 := Lib.hid hf1
  clear hh1 hf1 h97 g1
  have hh2 := fun W => ref_has L 98 Lsz W
  rw [h98] at hh2
  have HH2 := Lib.hid hh2
  have hf2 := fun W => ref_field p (.slice AA p.arrays.length ac) bv s2 b W
  rw [g2] at hf2
  unfold irVal at hf2
  have HF2 := Lib.hid hf2
  clear hh2 hf2 h98 g2
  have hh3 := fun W => ref_has L 99 Lsz W
  rw [h99] at hh3
  have HH3 := Lib.hid hh3
  have hf3 := fun W => ref_field p (.slice AA p.arrays.length ac) bv s3 c W
  rw [g3] at hf3
  unfold irVal at hf3
  have HF3 := Lib.hid hf3
  clear hh3 hf3 h99 g3
  clear hLT Lsz
  go_enter Try.func39, Try.ntmps39
  go_wp2_with fail
  refine (HLT.out _).mono ?_
  rintro e w2 ⟨rfl, hb⟩
  have hxp := (hb.block w.heap.size (by first | (simp; done) | (simp; omega))).trans (((bnew (w.alloc (.cells #[.int .i64 p.temps, .slice AA p.arrays.length ac, bv, .int .i64 p.inp, .int .i64 p.out] 25)) _).block w.heap.size (by simp)).trans (heap_alloc_new w _))
  have hxo := (hb.block (w.heap.size + 1) (by simp)).trans (alloc_new2 w _ _)
  have HXP := Lib.hid hxp
  have HXO := Lib.hid hxo
  have HBW := Lib.hid (bch (bal (bnew _ _) _) hb)
  clear hb hxp hxo
  go_wp2_with fail
  refine wp_region_L (fun w' => Below w2.heap.size w2 w') 99 (by kernel_rfl) ?_
  have hS0 : Below w2.heap.size w2 w2.drew := Below.drew (Below.refl _ _)
  refine wpAnyL_take (i := 0) (some 9) (.string L) rfl rfl (by kernel_rfl) (by kernel_rfl) (by kernel_rfl) (by kernel_rfl) (fun _ _ _ h => h) (by rfl) ?hvx8_0 hS0 ?restx8_0
  case hvx8_0 =>
    intro wz hSz
    go_simp
  try simp only [Act.put, List.setIfInBounds_toArray, List.set_cons_zero, List.set_cons_succ]
  refine wpAnyL_take (i := 1) (some 10) (.bool false) rfl rfl (by kernel_rfl) (by kernel_rfl) (by kernel_rfl) (by kernel_rfl) (fun _ _ _ h => h) (by rfl) ?hvx8_1 hS0 ?restx8_1
  case hvx8_1 =>
    intro wz hSz
    go_simp
  try simp only [Act.put, List.setIfInBounds_toArray, List.set_cons_zero, List.set_cons_succ]
  refine wpAnyL_take (i := 2) (some 11) (.bool false) rfl rfl (by kernel_rfl) (by kernel_rfl) (by kernel_rfl) (by kernel_rfl) (fun _ _ _ h => h) (by rfl) ?hvx8_2 hS0 ?restx8_2
  case hvx8_2 =>
    intro wz hSz
    go_simp
  try simp only [Act.put, List.setIfInBounds_toArray, List.set_cons_zero, List.set_cons_succ]
  refine wpAnyL_take (i := 3) (some 12) (.agg #[.int .i64 p.temps, .slice AA p.arrays.length ac, bv, .int .i64 p.inp, .int .i64 p.out]) rfl rfl (by kernel_rfl) (by kernel_rfl) (by kernel_rfl) (by kernel_rfl) (fun _ _ _ h => h) (by rfl) ?hvx8_3 hS0 ?restx8_3
  case hvx8_3 =>
    intro wz hSz
    obtain ⟨z0, z1, z2, z3, z4, _⟩ := ir_cells_at ((hSz.block _ (lt_of_blk HXP.out)).trans HXP.out)
    go_simp
  try simp only [Act.put, List.setIfInBounds_toArray, List.set_cons_zero, List.set_cons_succ]
  refine wpAnyL_take (i := 4) (some 13) (.string L) rfl rfl (by kernel_rfl) (by kernel_rfl) (by kernel_rfl) (by kernel_rfl) (fun _ _ _ h => h) (by rfl) ?hvx8_4 hS0 ?restx8_4
  case hvx8_4 =>
    intro wz hSz
    go_simp
  try simp only [Act.put, List.setIfInBounds_toArray, List.set_cons_zero, List.set_cons_succ]
  refine wpAnyL_take (i := 6) (some 15) (.pointer (some ⟨w.heap.size + 1, 1, none⟩)) rfl rfl (by kernel_rfl) (by kernel_rfl) (by kernel_rfl) (by kernel_rfl) (fun _ _ _ h => h) (by rfl) ?hvx8_6 hS0 ?restx8_6
  case hvx8_6 =>
    intro wz hSz
    go_simp
  try simp only [Act.put, List.setIfInBounds_toArray, List.set_cons_zero, List.set_cons_succ]
  refine wpAnyL_take (i := 7) (some 16) (.int .i64 d) rfl rfl (by kernel_rfl) (by kernel_rfl) (by kernel_rfl) (by kernel_rfl) (fun _ _ _ h => h) (by rfl) ?hvx8_7 hS0 ?restx8_7
  case hvx8_7 =>
    intro wz hSz
    obtain ⟨y0, y1, y2, y3, y4, y5, _, _, _, _⟩ := op_cells_at ((hSz.block _ (lt_of_blk HXO.out)).trans HXO.out)
    go_simp
  try simp only [Act.put, List.setIfInBounds_toArray, List.set_cons_zero, List.set_cons_succ]
  refine wpAnyL_one (i := 5) (by kernel_rfl) rfl ?_
  intro K hK
  rw [if_pos (by rfl)]
  go_simp
  refine (HH0.out _).mono ?_
  rintro e w' ⟨rfl, rfl⟩
  refine hK.out _ _ (fun _ => hS0) ?_
  clear hK
  try simp only [Act.put, List.setIfInBounds_toArray, List.set_cons_zero, List.set_cons_succ]
  refine wpAnyL_one (i := 8) (by kernel_rfl) rfl ?_
  intro K hK
  rw [if_pos (by rfl)]
  go_simp
  refine (HF0.out _).mono ?_
  rintro e wc1 ⟨rfl, hb⟩
  have hS1 := bch hS0 hb
  refine hK.out _ _ (fun _ => hS1) ?_
  clear hK hb
  try simp only [Act.put, List.setIfInBounds_toArray, List.set_cons_zero, List.set_cons_succ]
  refine wpAnyL_take (i := 9) (some 18) (.bool false) rfl rfl (by kernel_rfl) (by kernel_rfl) (by kernel_rfl) (by kernel_rfl) (fun _ _ _ h => h) (by rfl) ?hvx8_9 hS1 ?restx8_9
  case hvx8_9 =>
    intro wz hSz
    go_simp
  try simp only [Act.put, List.setIfInBounds_toArray, List.set_cons_zero, List.set_cons_succ]
  refine wpAnyL_take (i := 10) (some 19) (.bool false) rfl rfl (by kernel_rfl) (by kernel_rfl) (by kernel_rfl) (by kernel_rfl) (fun _ _ _ h => h) (by rfl) ?hvx8_10 hS1 ?restx8_10
  case hvx8_10 =>
    intro wz hSz
    go_simp
  try simp only [Act.put, List.setIfInBounds_toArray, List.set_cons_zero, List.set_cons_succ]
  refine wpAnyL_take (i := 11) (some 20) (.bool false) rfl rfl (by kernel_rfl) (by kernel_rfl) (by kernel_rfl) (by kernel_rfl) (fun _ _ _ h => h) (by rfl) ?hvx8_11 hS1 ?restx8_11
  case hvx8_11 =>
    intro wz hSz
    go_simp
  try simp only [Act.put, List.setIfInBounds_toArray, List.set_cons_zero, List.set_cons_succ]
  refine wpAnyL_take (i := 12) (some 21) (.agg #[.int .i64 p.temps, .slice AA p.arrays.length ac, bv, .int .i64 p.inp, .int .i64 p.out]) rfl rfl (by kernel_rfl) (by kernel_rfl) (by kernel_rfl) (by kernel_rfl) (fun _ _ _ h => h) (by rfl) ?hvx8_12 hS1 ?restx8_12
  case hvx8_12 =>
    intro wz hSz
    obtain ⟨z0, z1, z2, z3, z4, _⟩ := ir_cells_at ((hSz.block _ (lt_of_blk HXP.out)).trans HXP.out)
    go_simp
  try simp only [Act.put, List.setIfInBounds_toArray, List.set_cons_zero, List.set_cons_succ]
  refine wpAnyL_take (i := 13) (some 22) (.string L) rfl rfl (by kernel_rfl) (by kernel_rfl) (by kernel_rfl) (by kernel_rfl) (fun _ _ _ h => h) (by rfl) ?hvx8_13 hS1 ?restx8_13
  case hvx8_13 =>
    intro wz hSz
    go_simp
  try simp only [Act.put, List.setIfInBounds_toArray, List.set_cons_zero, List.set_cons_succ]
  refine wpAnyL_take (i := 15) (some 24) (.pointer (some ⟨w.heap.size + 1, 2, none⟩)) rfl rfl (by kernel_rfl) (by kernel_rfl) (by kernel_rfl) (by kernel_rfl) (fun _ _ _ h => h) (by rfl) ?hvx8_15 hS1 ?restx8_15
  case hvx8_15 =>
    intro wz hSz
    go_simp
  try simp only [Act.put, List.setIfInBounds_toArray, List.set_cons_zero, List.set_cons_succ]
  refine wpAnyL_take (i := 16) (some 25) (.int .i64 a) rfl rfl (by kernel_rfl) (by kernel_rfl) (by kernel_rfl) (by kernel_rfl) (fun _ _ _ h => h) (by rfl) ?hvx8_16 hS1 ?restx8_16
  case hvx8_16 =>
    intro wz hSz
    obtain ⟨y0, y1, y2, y3, y4, y5, _, _, _, _⟩ := op_cells_at ((hSz.block _ (lt_of_blk HXO.out)).trans HXO.out)
    go_simp
  try simp only [Act.put, List.setIfInBounds_toArray, List.set_cons_zero, List.set_cons_succ]
  refine wpAnyL_one (i := 14) (by kernel_rfl) rfl ?_
  intro K hK
  rw [if_pos (by rfl)]
  go_simp
  refine (HH1.out _).mono ?_
  rintro e w' ⟨rfl, rfl⟩
  refine hK.out _ _ (fun _ => hS1) ?_
  clear hK
  try simp only [Act.put, List.setIfInBounds_toArray, List.set_cons_zero, List.set_cons_succ]
  refine wpAnyL_one (i := 17) (by kernel_rfl) rfl ?_
  intro K hK
  rw [if_pos (by rfl)]
  go_simp
  refine (HF1.out _).mono ?_
  rintro e wc2 ⟨rfl, hb⟩
  have hS2 := bch hS1 hb
  refine hK.out _ _ (fun _ => hS2) ?_
  clear hK hb
  try simp only [Act.put, List.setIfInBounds_toArray, List.set_cons_zero, List.set_cons_succ]
  refine wpAnyL_take (i := 18) (some 27) (.bool false) rfl rfl (by kernel_rfl) (by kernel_rfl) (by kernel_rfl) (by kernel_rfl) (fun _ _ _ h => h) (by rfl) ?hvx8_18 hS2 ?restx8_18
  case hvx8_18 =>
    intro wz hSz
    go_simp
  try simp only [Act.put, List.setIfInBounds_toArray, List.set_cons_zero, List.set_cons_succ]
  refine wpAnyL_take (i := 19) (some 28) (.bool false) rfl rfl (by kernel_rfl) (by kernel_rfl) (by kernel_rfl) (by kernel_rfl) (fun _ _ _ h => h) (by rfl) ?hvx8_19 hS2 ?restx8_19
  case hvx8_19 =>
    intro wz hSz
    go_simp
  try simp only [Act.put, List.setIfInBounds_toArray, List.set_cons_zero, List.set_cons_succ]
  refine wpAnyL_take (i := 20) (some 29) (.bool false) rfl rfl (by kernel_rfl) (by kernel_rfl) (by kernel_rfl) (by kernel_rfl) (fun _ _ _ h => h) (by rfl) ?hvx8_20 hS2 ?restx8_20
  case hvx8_20 =>
    intro wz hSz
    go_simp
  try simp only [Act.put, List.setIfInBounds_toArray, List.set_cons_zero, List.set_cons_succ]
  refine wpAnyL_take (i := 21) (some 30) (.agg #[.int .i64 p.temps, .slice AA p.arrays.length ac, bv, .int .i64 p.inp, .int .i64 p.out]) rfl rfl (by kernel_rfl) (by kernel_rfl) (by kernel_rfl) (by kernel_rfl) (fun _ _ _ h => h) (by rfl) ?hvx8_21 hS2 ?restx8_21
  case hvx8_21 =>
    intro wz hSz
    obtain ⟨z0, z1, z2, z3, z4, _⟩ := ir_cells_at ((hSz.block _ (lt_of_blk HXP.out)).trans HXP.out)
    go_simp
  try simp only [Act.put, List.setIfInBounds_toArray, List.set_cons_zero, List.set_cons_succ]
  refine wpAnyL_take (i := 22) (some 31) (.string L) rfl rfl (by kernel_rfl) (by kernel_rfl) (by kernel_rfl) (by kernel_rfl) (fun _ _ _ h => h) (by rfl) ?hvx8_22 hS2 ?restx8_22
  case hvx8_22 =>
    intro wz hSz
    go_simp
  try simp only [Act.put, List.setIfInBounds_toArray, List.set_cons_zero, List.set_cons_succ]
  refine wpAnyL_take (i := 24) (some 33) (.pointer (some ⟨w.heap.size + 1, 3, none⟩)) rfl rfl (by kernel_rfl) (by kernel_rfl) (by kernel_rfl) (by kernel_rfl) (fun _ _ _ h => h) (by rfl) ?hvx8_24 hS2 ?restx8_24
  case hvx8_24 =>
    intro wz hSz
    go_simp
  try simp only [Act.put, List.setIfInBounds_toArray, List.set_cons_zero, List.set_cons_succ]
  refine wpAnyL_take (i := 25) (some 34) (.int .i64 b) rfl rfl (by kernel_rfl) (by kernel_rfl) (by kernel_rfl) (by kernel_rfl) (fun _ _ _ h => h) (by rfl) ?hvx8_25 hS2 ?restx8_25
  case hvx8_25 =>
    intro wz hSz
    obtain ⟨y0, y1, y2, y3, y4, y5, _, _, _, _⟩ := op_cells_at ((hSz.block _ (lt_of_blk HXO.out)).trans HXO.out)
    go_simp
  try simp only [Act.put, List.setIfInBounds_toArray, List.set_cons_zero, List.set_cons_succ]
  refine wpAnyL_one (i := 23) (by kernel_rfl) rfl ?_
  intro K hK
  rw [if_pos (by rfl)]
  go_simp
  refine (HH2.out _).mono ?_
  rintro e w' ⟨rfl, rfl⟩
  refine hK.out _ _ (fun _ => hS2) ?_
  clear hK
  try simp only [Act.put, List.setIfInBounds_toArray, List.set_cons_zero, List.set_cons_succ]
  refine wpAnyL_one (i := 26) (by kernel_rfl) rfl ?_
  intro K hK
  rw [if_pos (by rfl)]
  go_simp
  refine (HF2.out _).mono ?_
  rintro e wc3 ⟨rfl, hb⟩
  have hS3 := bch hS2 hb
  refine hK.out _ _ (fun _ => hS3) ?_
  clear hK hb
  try simp only [Act.put, List.setIfInBounds_toArray, List.set_cons_zero, List.set_cons_succ]
  refine wpAnyL_take (i := 27) (some 36) (.bool false) rfl rfl (by kernel_rfl) (by kernel_rfl) (by kernel_rfl) (by kernel_rfl) (fun _ _ _ h => h) (by rfl) ?hvx8_27 hS3 ?restx8_27
  case hvx8_27 =>
    intro wz hSz
    go_simp
  try simp only [Act.put, List.setIfInBounds_toArray, List.set_cons_zero, List.set_cons_succ]
  refine wpAnyL_take (i := 28) (some 37) (.bool false) rfl rfl (by kernel_rfl) (by kernel_rfl) (by kernel_rfl) (by kernel_rfl) (fun _ _ _ h => h) (by rfl) ?hvx8_28 hS3 ?restx8_28
  case hvx8_28 =>
    intro wz hSz
    go_simp
  try simp only [Act.put, List.setIfInBounds_toArray, List.set_cons_zero, List.set_cons_succ]
  refine wpAnyL_take (i := 29) (some 38) (.bool false) rfl rfl (by kernel_rfl) (by kernel_rfl) (by kernel_rfl) (by kernel_rfl) (fun _ _ _ h => h) (by rfl) ?hvx8_29 hS3 ?restx8_29
  case hvx8_29 =>
    intro wz hSz
    go_simp
  try simp only [Act.put, List.setIfInBounds_toArray, List.set_cons_zero, List.set_cons_succ]
  refine wpAnyL_take (i := 30) (some 39) (.agg #[.int .i64 p.temps, .slice AA p.arrays.length ac, bv, .int .i64 p.inp, .int .i64 p.out]) rfl rfl (by kernel_rfl) (by kernel_rfl) (by kernel_rfl) (by kernel_rfl) (fun _ _ _ h => h) (by rfl) ?hvx8_30 hS3 ?restx8_30
  case hvx8_30 =>
    intro wz hSz
    obtain ⟨z0, z1, z2, z3, z4, _⟩ := ir_cells_at ((hSz.block _ (lt_of_blk HXP.out)).trans HXP.out)
    go_simp
  try simp only [Act.put, List.setIfInBounds_toArray, List.set_cons_zero, List.set_cons_succ]
  refine wpAnyL_take (i := 31) (some 40) (.string L) rfl rfl (by kernel_rfl) (by kernel_rfl) (by kernel_rfl) (by kernel_rfl) (fun _ _ _ h => h) (by rfl) ?hvx8_31 hS3 ?restx8_31
  case hvx8_31 =>
    intro wz hSz
    go_simp
  try simp only [Act.put, List.setIfInBounds_toArray, List.set_cons_zero, List.set_cons_succ]
  refine wpAnyL_take (i := 33) (some 42) (.pointer (some ⟨w.heap.size + 1, 4, none⟩)) rfl rfl (by kernel_rfl) (by kernel_rfl) (by kernel_rfl) (by kernel_rfl) (fun _ _ _ h => h) (by rfl) ?hvx8_33 hS3 ?restx8_33
  case hvx8_33 =>
    intro wz hSz
    go_simp
  try simp only [Act.put, List.setIfInBounds_toArray, List.set_cons_zero, List.set_cons_succ]
  refine wpAnyL_take (i := 34) (some 43) (.int .i64 c) rfl rfl (by kernel_rfl) (by kernel_rfl) (by kernel_rfl) (by kernel_rfl) (fun _ _ _ h => h) (by rfl) ?hvx8_34 hS3 ?restx8_34
  case hvx8_34 =>
    intro wz hSz
    obtain ⟨y0, y1, y2, y3, y4, y5, _, _, _, _⟩ := op_cells_at ((hSz.block _ (lt_of_blk HXO.out)).trans HXO.out)
    go_simp
  try simp only [Act.put, List.setIfInBounds_toArray, List.set_cons_zero, List.set_cons_succ]
  refine wpAnyL_one (i := 32) (by kernel_rfl) rfl ?_
  intro K hK
  rw [if_pos (by rfl)]
  go_simp
  refine (HH3.out _).mono ?_
  rintro e w' ⟨rfl, rfl⟩
  refine hK.out _ _ (fun _ => hS3) ?_
  clear hK
  try simp only [Act.put, List.setIfInBounds_toArray, List.set_cons_zero, List.set_cons_succ]
  refine wpAnyL_one (i := 35) (by kernel_rfl) rfl ?_
  intro K hK
  rw [if_pos (by rfl)]
  go_simp
  refine (HF3.out _).mono ?_
  rintro e wc4 ⟨rfl, hb⟩
  have hS4 := bch hS3 hb
  refine hK.out _ _ (fun _ => hS4) ?_
  clear hK hb
  try simp only [Act.put, List.setIfInBounds_toArray, List.set_cons_zero, List.set_cons_succ]
  refine wpAnyL_take (i := 36) (some 45) (.bool false) rfl rfl (by kernel_rfl) (by kernel_rfl) (by kernel_rfl) (by kernel_rfl) (fun _ _ _ h => h) (by rfl) ?hvx8_36 hS4 ?restx8_36
  case hvx8_36 =>
    intro wz hSz
    go_simp
  try simp only [Act.put, List.setIfInBounds_toArray, List.set_cons_zero, List.set_cons_succ]
  refine wpAnyL_take (i := 37) (some 46) (.bool false) rfl rfl (by kernel_rfl) (by kernel_rfl) (by kernel_rfl) (by kernel_rfl) (fun _ _ _ h => h) (by rfl) ?hvx8_37 hS4 ?restx8_37
  case hvx8_37 =>
    intro wz hSz
    go_simp
  try simp only [Act.put, List.setIfInBounds_toArray, List.set_cons_zero, List.set_cons_succ]
  refine wpAnyL_take (i := 38) (some 47) (.bool false) rfl rfl (by kernel_rfl) (by kernel_rfl) (by kernel_rfl) (by kernel_rfl) (fun _ _ _ h => h) (by rfl) ?hvx8_38 hS4 ?restx8_38
  case hvx8_38 =>
    intro wz hSz
    go_simp
  try simp only [Act.put, List.setIfInBounds_toArray, List.set_cons_zero, List.set_cons_succ]
  refine wpAnyL_take (i := 39) (some 48) (.pointer (some ⟨w.heap.size + 1, 5, none⟩)) rfl rfl (by kernel_rfl) (by kernel_rfl) (by kernel_rfl) (by kernel_rfl) (fun _ _ _ h => h) (by rfl) ?hvx8_39 hS4 ?restx8_39
  case hvx8_39 =>
    intro wz hSz
    go_simp
  try simp only [Act.put, List.setIfInBounds_toArray, List.set_cons_zero, List.set_cons_succ]
  refine wpAnyL_take (i := 40) (some 49) (.int .i64 i) rfl rfl (by kernel_rfl) (by kernel_rfl) (by kernel_rfl) (by kernel_rfl) (fun _ _ _ h => h) (by rfl) ?hvx8_40 hS4 ?restx8_40
  case hvx8_40 =>
    intro wz hSz
    obtain ⟨y0, y1, y2, y3, y4, y5, _, _, _, _⟩ := op_cells_at ((hSz.block _ (lt_of_blk HXO.out)).trans HXO.out)
    go_simp
  try simp only [Act.put, List.setIfInBounds_toArray, List.set_cons_zero, List.set_cons_succ]
  refine wpAnyL_take (i := 41) (some 50) (.bool false) rfl rfl (by kernel_rfl) (by kernel_rfl) (by kernel_rfl) (by kernel_rfl) (fun _ _ _ h => h) (by rfl) ?hvx8_41 hS4 ?restx8_41
  case hvx8_41 =>
    intro wz hSz
    go_simp
  try simp only [Act.put, List.setIfInBounds_toArray, List.set_cons_zero, List.set_cons_succ]
  refine wpAnyL_take (i := 42) (some 51) (.bool false) rfl rfl (by kernel_rfl) (by kernel_rfl) (by kernel_rfl) (by kernel_rfl) (fun _ _ _ h => h) (by rfl) ?hvx8_42 hS4 ?restx8_42
  case hvx8_42 =>
    intro wz hSz
    go_simp
  try simp only [Act.put, List.setIfInBounds_toArray, List.set_cons_zero, List.set_cons_succ]
  refine wpAnyL_done (by kernel_rfl) ?_ _
  have HSW := Lib.hid hS4
  obtain ⟨y0, y1, y2, y3, y4, y5, _, _, _, _⟩ := op_cells_at ((hS4.block _ (lt_of_blk HXO.out)).trans HXO.out)
  obtain ⟨z0, z1, z2, z3, z4, _⟩ := ir_cells_at ((hS4.block _ (lt_of_blk HXP.out)).trans HXP.out)
  go_wp2_with fail
  refine (HQ110.out _).mono ?_
  rintro e w' ⟨rfl, rfl⟩
  go_wp2_with fail
  refine (HQ115.out _).mono ?_
  rintro e w' ⟨rfl, rfl⟩
  go_wp2_with fail
  go_ret
  exact ⟨rfl, bch HBW.out HSW.out⟩
set_option maxHeartbeats 8000000 in
set_option maxRecDepth 100000 in
theorem ref_op_z (p : Ir) (AA : Option Addr) (ac : Nat) (bv : Value) (k d a b c i : Int) (L : ByteArray) (fd s1 s2 s3 : Bool) (qL : (L == ⟨#[]⟩) = false) (qL2 : (L.toList == ByteArray.toList ⟨#[]⟩) = false) (qL3 : (L.toList == []) = false) (Lsz : L.size ≤ 1000000) (h100 : hasC L 100 = fd) (h97 : hasC L 97 = s1) (h98 : hasC L 98 = s2) (h99 : hasC L 99 = s3) (g0 : decide (fieldP p fd d) = true) (g1 : decide (fieldP p s1 a) = true) (g2 : decide (fieldP p s2 b) = true) (g3 : decide (fieldP p s3 c) = true) (hi : 0 ≤ i) (q110 : hasC L 110 = false) (q115 : hasC L 115 = false) (q114 : hasC L 114 = false) (hLT : ∀ W, Calls Try.prog 54 #[.int .i64 k] W fun e w' => e = .returned (.string L) ∧ Below W.heap.size W w') (w : World) :
    Calls Try.prog 39 #[.agg #[.int .i64 p.temps, .slice AA p.arrays.length ac, bv, .int .i64 p.inp, .int .i64 p.out], .agg #[.int .i64 k, .int .i64 d, .int .i64 a, .int .i64 b, .int .i64 c, .int .i64 i]] w fun e w' => e = .returned (.bool (decide (i = 0))) ∧ Below w.heap.size w w' := by
  have hq110 := fun W => ref_has L 110 Lsz W
  rw [q110] at hq110
  have HQ110 := Lib.hid hq110
  clear hq110 q110
  have hq115 := fun W => ref_has L 115 Lsz W
  rw [q115] at hq115
  have HQ115 := Lib.hid hq115
  clear hq115 q115
  have hq114 := fun W => ref_has L 114 Lsz W
  rw [q114] at hq114
  have HQ114 := Lib.hid hq114
  clear hq114 q114
  have HLT := Lib.hid hLT
  have hh0 := fun W => ref_has L 100 Lsz W
  rw [h100] at hh0
  have HH0 := Lib.hid hh0
  have hf0 := fun W => ref_field p (.slice AA p.arrays.length ac) bv fd d W
  rw [g0] at hf0
  unfold irVal at hf0
  have HF0 := Lib.hid hf0
  clear hh0 hf0 h100 g0
  have hh1 := fun W => ref_has L 97 Lsz W
  rw [h97] at hh1
  have HH1 := Lib.hid hh1
  have hf1 := fun W => ref_field p (.slice AA p.arrays.length ac) bv s1 a W
  rw [g1] at hf1
  unfold irVal at hf1
  have HF1 := Lib.hid hf1
  clear hh1 hf1 h97 g1
  have hh2 := fun W => ref_has L 98 Lsz W
  rw [h98] at hh2
  have HH2 := Lib.hid hh2
  have hf2 := fun W => ref_field p (.slice AA p.arrays.length ac) bv s2 b W
  rw [g2] at hf2
  unfold irVal at hf2
  have HF2 := Lib.hid hf2
  clear hh2 hf2 h98 g2
  have hh3 := fun W => ref_has L 99 Lsz W
  rw [h99] at hh3
  have HH3 := Lib.hid hh3
  have hf3 := fun W => ref_field p (.slice AA p.arrays.length ac) bv s3 c W
  rw [g3] at hf3
  unfold irVal at hf3
  have HF3 := Lib.hid hf3
  clear hh3 hf3 h99 g3
  clear hLT Lsz
  go_enter Try.func39, Try.ntmps39
  go_wp2_with fail
  refine (HLT.out _).mono ?_
  rintro e w2 ⟨rfl, hb⟩
  have hxp := (hb.block w.heap.size (by first | (simp; done) | (simp; omega))).trans (((bnew (w.alloc (.cells #[.int .i64 p.temps, .slice AA p.arrays.length ac, bv, .int .i64 p.inp, .int .i64 p.out] 25)) _).block w.heap.size (by simp)).trans (heap_alloc_new w _))
  have hxo := (hb.block (w.heap.size + 1) (by simp)).trans (alloc_new2 w _ _)
  have HXP := Lib.hid hxp
  have HXO := Lib.hid hxo
  have HBW := Lib.hid (bch (bal (bnew _ _) _) hb)
  clear hb hxp hxo
  go_wp2_with fail
  refine wp_region_L (fun w' => Below w2.heap.size w2 w') 99 (by kernel_rfl) ?_
  have hS0 : Below w2.heap.size w2 w2.drew := Below.drew (Below.refl _ _)
  refine wpAnyL_take (i := 0) (some 9) (.string L) rfl rfl (by kernel_rfl) (by kernel_rfl) (by kernel_rfl) (by kernel_rfl) (fun _ _ _ h => h) (by rfl) ?hvx9_0 hS0 ?restx9_0
  case hvx9_0 =>
    intro wz hSz
    go_simp
  try simp only [Act.put, List.setIfInBounds_toArray, List.set_cons_zero, List.set_cons_succ]
  refine wpAnyL_take (i := 1) (some 10) (.bool false) rfl rfl (by kernel_rfl) (by kernel_rfl) (by kernel_rfl) (by kernel_rfl) (fun _ _ _ h => h) (by rfl) ?hvx9_1 hS0 ?restx9_1
  case hvx9_1 =>
    intro wz hSz
    go_simp
  try simp only [Act.put, List.setIfInBounds_toArray, List.set_cons_zero, List.set_cons_succ]
  refine wpAnyL_take (i := 2) (some 11) (.bool false) rfl rfl (by kernel_rfl) (by kernel_rfl) (by kernel_rfl) (by kernel_rfl) (fun _ _ _ h => h) (by rfl) ?hvx9_2 hS0 ?restx9_2
  case hvx9_2 =>
    intro wz hSz
    go_simp
  try simp only [Act.put, List.setIfInBounds_toArray, List.set_cons_zero, List.set_cons_succ]
  refine wpAnyL_take (i := 3) (some 12) (.agg #[.int .i64 p.temps, .slice AA p.arrays.length ac, bv, .int .i64 p.inp, .int .i64 p.out]) rfl rfl (by kernel_rfl) (by kernel_rfl) (by kernel_rfl) (by kernel_rfl) (fun _ _ _ h => h) (by rfl) ?hvx9_3 hS0 ?restx9_3
  case hvx9_3 =>
    intro wz hSz
    obtain ⟨z0, z1, z2, z3, z4, _⟩ := ir_cells_at ((hSz.block _ (lt_of_blk HXP.out)).trans HXP.out)
    go_simp
  try simp only [Act.put, List.setIfInBounds_toArray, List.set_cons_zero, List.set_cons_succ]
  refine wpAnyL_take (i := 4) (some 13) (.string L) rfl rfl (by kernel_rfl) (by kernel_rfl) (by kernel_rfl) (by kernel_rfl) (fun _ _ _ h => h) (by rfl) ?hvx9_4 hS0 ?restx9_4
  case hvx9_4 =>
    intro wz hSz
    go_simp
  try simp only [Act.put, List.setIfInBounds_toArray, List.set_cons_zero, List.set_cons_succ]
  refine wpAnyL_take (i := 6) (some 15) (.pointer (some ⟨w.heap.size + 1, 1, none⟩)) rfl rfl (by kernel_rfl) (by kernel_rfl) (by kernel_rfl) (by kernel_rfl) (fun _ _ _ h => h) (by rfl) ?hvx9_6 hS0 ?restx9_6
  case hvx9_6 =>
    intro wz hSz
    go_simp
  try simp only [Act.put, List.setIfInBounds_toArray, List.set_cons_zero, List.set_cons_succ]
  refine wpAnyL_take (i := 7) (some 16) (.int .i64 d) rfl rfl (by kernel_rfl) (by kernel_rfl) (by kernel_rfl) (by kernel_rfl) (fun _ _ _ h => h) (by rfl) ?hvx9_7 hS0 ?restx9_7
  case hvx9_7 =>
    intro wz hSz
    obtain ⟨y0, y1, y2, y3, y4, y5, _, _, _, _⟩ := op_cells_at ((hSz.block _ (lt_of_blk HXO.out)).trans HXO.out)
    go_simp
  try simp only [Act.put, List.setIfInBounds_toArray, List.set_cons_zero, List.set_cons_succ]
  refine wpAnyL_one (i := 5) (by kernel_rfl) rfl ?_
  intro K hK
  rw [if_pos (by rfl)]
  go_simp
  refine (HH0.out _).mono ?_
  rintro e w' ⟨rfl, rfl⟩
  refine hK.out _ _ (fun _ => hS0) ?_
  clear hK
  try simp only [Act.put, List.setIfInBounds_toArray, List.set_cons_zero, List.set_cons_succ]
  refine wpAnyL_one (i := 8) (by kernel_rfl) rfl ?_
  intro K hK
  rw [if_pos (by rfl)]
  go_simp
  refine (HF0.out _).mono ?_
  rintro e wc1 ⟨rfl, hb⟩
  have hS1 := bch hS0 hb
  refine hK.out _ _ (fun _ => hS1) ?_
  clear hK hb
  try simp only [Act.put, List.setIfInBounds_toArray, List.set_cons_zero, List.set_cons_succ]
  refine wpAnyL_take (i := 9) (some 18) (.bool false) rfl rfl (by kernel_rfl) (by kernel_rfl) (by kernel_rfl) (by kernel_rfl) (fun _ _ _ h => h) (by rfl) ?hvx9_9 hS1 ?restx9_9
  case hvx9_9 =>
    intro wz hSz
    go_simp
  try simp only [Act.put, List.setIfInBounds_toArray, List.set_cons_zero, List.set_cons_succ]
  refine wpAnyL_take (i := 10) (some 19) (.bool false) rfl rfl (by kernel_rfl) (by kernel_rfl) (by kernel_rfl) (by kernel_rfl) (fun _ _ _ h => h) (by rfl) ?hvx9_10 hS1 ?restx9_10
  case hvx9_10 =>
    intro wz hSz
    go_simp
  try simp only [Act.put, List.setIfInBounds_toArray, List.set_cons_zero, List.set_cons_succ]
  refine wpAnyL_take (i := 11) (some 20) (.bool false) rfl rfl (by kernel_rfl) (by kernel_rfl) (by kernel_rfl) (by kernel_rfl) (fun _ _ _ h => h) (by rfl) ?hvx9_11 hS1 ?restx9_11
  case hvx9_11 =>
    intro wz hSz
    go_simp
  try simp only [Act.put, List.setIfInBounds_toArray, List.set_cons_zero, List.set_cons_succ]
  refine wpAnyL_take (i := 12) (some 21) (.agg #[.int .i64 p.temps, .slice AA p.arrays.length ac, bv, .int .i64 p.inp, .int .i64 p.out]) rfl rfl (by kernel_rfl) (by kernel_rfl) (by kernel_rfl) (by kernel_rfl) (fun _ _ _ h => h) (by rfl) ?hvx9_12 hS1 ?restx9_12
  case hvx9_12 =>
    intro wz hSz
    obtain ⟨z0, z1, z2, z3, z4, _⟩ := ir_cells_at ((hSz.block _ (lt_of_blk HXP.out)).trans HXP.out)
    go_simp
  try simp only [Act.put, List.setIfInBounds_toArray, List.set_cons_zero, List.set_cons_succ]
  refine wpAnyL_take (i := 13) (some 22) (.string L) rfl rfl (by kernel_rfl) (by kernel_rfl) (by kernel_rfl) (by kernel_rfl) (fun _ _ _ h => h) (by rfl) ?hvx9_13 hS1 ?restx9_13
  case hvx9_13 =>
    intro wz hSz
    go_simp
  try simp only [Act.put, List.setIfInBounds_toArray, List.set_cons_zero, List.set_cons_succ]
  refine wpAnyL_take (i := 15) (some 24) (.pointer (some ⟨w.heap.size + 1, 2, none⟩)) rfl rfl (by kernel_rfl) (by kernel_rfl) (by kernel_rfl) (by kernel_rfl) (fun _ _ _ h => h) (by rfl) ?hvx9_15 hS1 ?restx9_15
  case hvx9_15 =>
    intro wz hSz
    go_simp
  try simp only [Act.put, List.setIfInBounds_toArray, List.set_cons_zero, List.set_cons_succ]
  refine wpAnyL_take (i := 16) (some 25) (.int .i64 a) rfl rfl (by kernel_rfl) (by kernel_rfl) (by kernel_rfl) (by kernel_rfl) (fun _ _ _ h => h) (by rfl) ?hvx9_16 hS1 ?restx9_16
  case hvx9_16 =>
    intro wz hSz
    obtain ⟨y0, y1, y2, y3, y4, y5, _, _, _, _⟩ := op_cells_at ((hSz.block _ (lt_of_blk HXO.out)).trans HXO.out)
    go_simp
  try simp only [Act.put, List.setIfInBounds_toArray, List.set_cons_zero, List.set_cons_succ]
  refine wpAnyL_one (i := 14) (by kernel_rfl) rfl ?_
  intro K hK
  rw [if_pos (by rfl)]
  go_simp
  refine (HH1.out _).mono ?_
  rintro e w' ⟨rfl, rfl⟩
  refine hK.out _ _ (fun _ => hS1) ?_
  clear hK
  try simp only [Act.put, List.setIfInBounds_toArray, List.set_cons_zero, List.set_cons_succ]
  refine wpAnyL_one (i := 17) (by kernel_rfl) rfl ?_
  intro K hK
  rw [if_pos (by rfl)]
  go_simp
  refine (HF1.out _).mono ?_
  rintro e wc2 ⟨rfl, hb⟩
  have hS2 := bch hS1 hb
  refine hK.out _ _ (fun _ => hS2) ?_
  clear hK hb
  try simp only [Act.put, List.setIfInBounds_toArray, List.set_cons_zero, List.set_cons_succ]
  refine wpAnyL_take (i := 18) (some 27) (.bool false) rfl rfl (by kernel_rfl) (by kernel_rfl) (by kernel_rfl) (by kernel_rfl) (fun _ _ _ h => h) (by rfl) ?hvx9_18 hS2 ?restx9_18
  case hvx9_18 =>
    intro wz hSz
    go_simp
  try simp only [Act.put, List.setIfInBounds_toArray, List.set_cons_zero, List.set_cons_succ]
  refine wpAnyL_take (i := 19) (some 28) (.bool false) rfl rfl (by kernel_rfl) (by kernel_rfl) (by kernel_rfl) (by kernel_rfl) (fun _ _ _ h => h) (by rfl) ?hvx9_19 hS2 ?restx9_19
  case hvx9_19 =>
    intro wz hSz
    go_simp
  try simp only [Act.put, List.setIfInBounds_toArray, List.set_cons_zero, List.set_cons_succ]
  refine wpAnyL_take (i := 20) (some 29) (.bool false) rfl rfl (by kernel_rfl) (by kernel_rfl) (by kernel_rfl) (by kernel_rfl) (fun _ _ _ h => h) (by rfl) ?hvx9_20 hS2 ?restx9_20
  case hvx9_20 =>
    intro wz hSz
    go_simp
  try simp only [Act.put, List.setIfInBounds_toArray, List.set_cons_zero, List.set_cons_succ]
  refine wpAnyL_take (i := 21) (some 30) (.agg #[.int .i64 p.temps, .slice AA p.arrays.length ac, bv, .int .i64 p.inp, .int .i64 p.out]) rfl rfl (by kernel_rfl) (by kernel_rfl) (by kernel_rfl) (by kernel_rfl) (fun _ _ _ h => h) (by rfl) ?hvx9_21 hS2 ?restx9_21
  case hvx9_21 =>
    intro wz hSz
    obtain ⟨z0, z1, z2, z3, z4, _⟩ := ir_cells_at ((hSz.block _ (lt_of_blk HXP.out)).trans HXP.out)
    go_simp
  try simp only [Act.put, List.setIfInBounds_toArray, List.set_cons_zero, List.set_cons_succ]
  refine wpAnyL_take (i := 22) (some 31) (.string L) rfl rfl (by kernel_rfl) (by kernel_rfl) (by kernel_rfl) (by kernel_rfl) (fun _ _ _ h => h) (by rfl) ?hvx9_22 hS2 ?restx9_22
  case hvx9_22 =>
    intro wz hSz
    go_simp
  try simp only [Act.put, List.setIfInBounds_toArray, List.set_cons_zero, List.set_cons_succ]
  refine wpAnyL_take (i := 24) (some 33) (.pointer (some ⟨w.heap.size + 1, 3, none⟩)) rfl rfl (by kernel_rfl) (by kernel_rfl) (by kernel_rfl) (by kernel_rfl) (fun _ _ _ h => h) (by rfl) ?hvx9_24 hS2 ?restx9_24
  case hvx9_24 =>
    intro wz hSz
    go_simp
  try simp only [Act.put, List.setIfInBounds_toArray, List.set_cons_zero, List.set_cons_succ]
  refine wpAnyL_take (i := 25) (some 34) (.int .i64 b) rfl rfl (by kernel_rfl) (by kernel_rfl) (by kernel_rfl) (by kernel_rfl) (fun _ _ _ h => h) (by rfl) ?hvx9_25 hS2 ?restx9_25
  case hvx9_25 =>
    intro wz hSz
    obtain ⟨y0, y1, y2, y3, y4, y5, _, _, _, _⟩ := op_cells_at ((hSz.block _ (lt_of_blk HXO.out)).trans HXO.out)
    go_simp
  try simp only [Act.put, List.setIfInBounds_toArray, List.set_cons_zero, List.set_cons_succ]
  refine wpAnyL_one (i := 23) (by kernel_rfl) rfl ?_
  intro K hK
  rw [if_pos (by rfl)]
  go_simp
  refine (HH2.out _).mono ?_
  rintro e w' ⟨rfl, rfl⟩
  refine hK.out _ _ (fun _ => hS2) ?_
  clear hK
  try simp only [Act.put, List.setIfInBounds_toArray, List.set_cons_zero, List.set_cons_succ]
  refine wpAnyL_one (i := 26) (by kernel_rfl) rfl ?_
  intro K hK
  rw [if_pos (by rfl)]
  go_simp
  refine (HF2.out _).mono ?_
  rintro e wc3 ⟨rfl, hb⟩
  have hS3 := bch hS2 hb
  refine hK.out _ _ (fun _ => hS3) ?_
  clear hK hb
  try simp only [Act.put, List.setIfInBounds_toArray, List.set_cons_zero, List.set_cons_succ]
  refine wpAnyL_take (i := 27) (some 36) (.bool false) rfl rfl (by kernel_rfl) (by kernel_rfl) (by kernel_rfl) (by kernel_rfl) (fun _ _ _ h => h) (by rfl) ?hvx9_27 hS3 ?restx9_27
  case hvx9_27 =>
    intro wz hSz
    go_simp
  try simp only [Act.put, List.setIfInBounds_toArray, List.set_cons_zero, List.set_cons_succ]
  refine wpAnyL_take (i := 28) (some 37) (.bool false) rfl rfl (by kernel_rfl) (by kernel_rfl) (by kernel_rfl) (by kernel_rfl) (fun _ _ _ h => h) (by rfl) ?hvx9_28 hS3 ?restx9_28
  case hvx9_28 =>
    intro wz hSz
    go_simp
  try simp only [Act.put, List.setIfInBounds_toArray, List.set_cons_zero, List.set_cons_succ]
  refine wpAnyL_take (i := 29) (some 38) (.bool false) rfl rfl (by kernel_rfl) (by kernel_rfl) (by kernel_rfl) (by kernel_rfl) (fun _ _ _ h => h) (by rfl) ?hvx9_29 hS3 ?restx9_29
  case hvx9_29 =>
    intro wz hSz
    go_simp
  try simp only [Act.put, List.setIfInBounds_toArray, List.set_cons_zero, List.set_cons_succ]
  refine wpAnyL_take (i := 30) (some 39) (.agg #[.int .i64 p.temps, .slice AA p.arrays.length ac, bv, .int .i64 p.inp, .int .i64 p.out]) rfl rfl (by kernel_rfl) (by kernel_rfl) (by kernel_rfl) (by kernel_rfl) (fun _ _ _ h => h) (by rfl) ?hvx9_30 hS3 ?restx9_30
  case hvx9_30 =>
    intro wz hSz
    obtain ⟨z0, z1, z2, z3, z4, _⟩ := ir_cells_at ((hSz.block _ (lt_of_blk HXP.out)).trans HXP.out)
    go_simp
  try simp only [Act.put, List.setIfInBounds_toArray, List.set_cons_zero, List.set_cons_succ]
  refine wpAnyL_take (i := 31) (some 40) (.string L) rfl rfl (by kernel_rfl) (by kernel_rfl) (by kernel_rfl) (by kernel_rfl) (fun _ _ _ h => h) (by rfl) ?hvx9_31 hS3 ?restx9_31
  case hvx9_31 =>
    intro wz hSz
    go_simp
  try simp only [Act.put, List.setIfInBounds_toArray, List.set_cons_zero, List.set_cons_succ]
  refine wpAnyL_take (i := 33) (some 42) (.pointer (some ⟨w.heap.size + 1, 4, none⟩)) rfl rfl (by kernel_rfl) (by kernel_rfl) (by kernel_rfl) (by kernel_rfl) (fun _ _ _ h => h) (by rfl) ?hvx9_33 hS3 ?restx9_33
  case hvx9_33 =>
    intro wz hSz
    go_simp
  try simp only [Act.put, List.setIfInBounds_toArray, List.set_cons_zero, List.set_cons_succ]
  refine wpAnyL_take (i := 34) (some 43) (.int .i64 c) rfl rfl (by kernel_rfl) (by kernel_rfl) (by kernel_rfl) (by kernel_rfl) (fun _ _ _ h => h) (by rfl) ?hvx9_34 hS3 ?restx9_34
  case hvx9_34 =>
    intro wz hSz
    obtain ⟨y0, y1, y2, y3, y4, y5, _, _, _, _⟩ := op_cells_at ((hSz.block _ (lt_of_blk HXO.out)).trans HXO.out)
    go_simp
  try simp only [Act.put, List.setIfInBounds_toArray, List.set_cons_zero, List.set_cons_succ]
  refine wpAnyL_one (i := 32) (by kernel_rfl) rfl ?_
  intro K hK
  rw [if_pos (by rfl)]
  go_simp
  refine (HH3.out _).mono ?_
  rintro e w' ⟨rfl, rfl⟩
  refine hK.out _ _ (fun _ => hS3) ?_
  clear hK
  try simp only [Act.put, List.setIfInBounds_toArray, List.set_cons_zero, List.set_cons_succ]
  refine wpAnyL_one (i := 35) (by kernel_rfl) rfl ?_
  intro K hK
  rw [if_pos (by rfl)]
  go_simp
  refine (HF3.out _).mono ?_
  rintro e wc4 ⟨rfl, hb⟩
  have hS4 := bch hS3 hb
  refine hK.out _ _ (fun _ => hS4) ?_
  clear hK hb
  try simp only [Act.put, List.setIfInBounds_toArray, List.set_cons_zero, List.set_cons_succ]
  refine wpAnyL_take (i := 36) (some 45) (.bool false) rfl rfl (by kernel_rfl) (by kernel_rfl) (by kernel_rfl) (by kernel_rfl) (fun _ _ _ h => h) (by rfl) ?hvx9_36 hS4 ?restx9_36
  case hvx9_36 =>
    intro wz hSz
    go_simp
  try simp only [Act.put, List.setIfInBounds_toArray, List.set_cons_zero, List.set_cons_succ]
  refine wpAnyL_take (i := 37) (some 46) (.bool false) rfl rfl (by kernel_rfl) (by kernel_rfl) (by kernel_rfl) (by kernel_rfl) (fun _ _ _ h => h) (by rfl) ?hvx9_37 hS4 ?restx9_37
  case hvx9_37 =>
    intro wz hSz
    go_simp
  try simp only [Act.put, List.setIfInBounds_toArray, List.set_cons_zero, List.set_cons_succ]
  refine wpAnyL_take (i := 38) (some 47) (.bool false) rfl rfl (by kernel_rfl) (by kernel_rfl) (by kernel_rfl) (by kernel_rfl) (fun _ _ _ h => h) (by rfl) ?hvx9_38 hS4 ?restx9_38
  case hvx9_38 =>
    intro wz hSz
    go_simp
  try simp only [Act.put, List.setIfInBounds_toArray, List.set_cons_zero, List.set_cons_succ]
  refine wpAnyL_take (i := 39) (some 48) (.pointer (some ⟨w.heap.size + 1, 5, none⟩)) rfl rfl (by kernel_rfl) (by kernel_rfl) (by kernel_rfl) (by kernel_rfl) (fun _ _ _ h => h) (by rfl) ?hvx9_39 hS4 ?restx9_39
  case hvx9_39 =>
    intro wz hSz
    go_simp
  try simp only [Act.put, List.setIfInBounds_toArray, List.set_cons_zero, List.set_cons_succ]
  refine wpAnyL_take (i := 40) (some 49) (.int .i64 i) rfl rfl (by kernel_rfl) (by kernel_rfl) (by kernel_rfl) (by kernel_rfl) (fun _ _ _ h => h) (by rfl) ?hvx9_40 hS4 ?restx9_40
  case hvx9_40 =>
    intro wz hSz
    obtain ⟨y0, y1, y2, y3, y4, y5, _, _, _, _⟩ := op_cells_at ((hSz.block _ (lt_of_blk HXO.out)).trans HXO.out)
    go_simp
  try simp only [Act.put, List.setIfInBounds_toArray, List.set_cons_zero, List.set_cons_succ]
  refine wpAnyL_take (i := 41) (some 50) (.bool false) rfl rfl (by kernel_rfl) (by kernel_rfl) (by kernel_rfl) (by kernel_rfl) (fun _ _ _ h => h) (by rfl) ?hvx9_41 hS4 ?restx9_41
  case hvx9_41 =>
    intro wz hSz
    go_simp
  try simp only [Act.put, List.setIfInBounds_toArray, List.set_cons_zero, List.set_cons_succ]
  refine wpAnyL_take (i := 42) (some 51) (.bool false) rfl rfl (by kernel_rfl) (by kernel_rfl) (by kernel_rfl) (by kernel_rfl) (fun _ _ _ h => h) (by rfl) ?hvx9_42 hS4 ?restx9_42
  case hvx9_42 =>
    intro wz hSz
    go_simp
  try simp only [Act.put, List.setIfInBounds_toArray, List.set_cons_zero, List.set_cons_succ]
  refine wpAnyL_done (by kernel_rfl) ?_ _
  have HSW := Lib.hid hS4
  obtain ⟨y0, y1, y2, y3, y4, y5, _, _, _, _⟩ := op_cells_at ((hS4.block _ (lt_of_blk HXO.out)).trans HXO.out)
  obtain ⟨z0, z1, z2, z3, z4, _⟩ := ir_cells_at ((hS4.block _ (lt_of_blk HXP.out)).trans HXP.out)
  go_wp2_with fail
  refine (HQ110.out _).mono ?_
  rintro e w' ⟨rfl, rfl⟩
  go_wp2_with fail
  refine (HQ115.out _).mono ?_
  rintro e w' ⟨rfl, rfl⟩
  go_wp2_with fail
  refine (HQ114.out _).mono ?_
  rintro e w' ⟨rfl, rfl⟩
  go_wp2_with fail
  go_ret
  exact ⟨ret_bool (by rw [Bool.eq_iff_iff]; simp), bch HBW.out HSW.out⟩
end Go.Proofs.Ythkobddggoojlaa
