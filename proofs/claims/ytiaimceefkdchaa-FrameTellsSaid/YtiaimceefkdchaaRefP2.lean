/- Contract of hauberkref17's op, in part. No condition but those that the theorem names. -/
import Derived.Test.YtiaimceefkdchaaRefJ
import Derived.Test.YtiaimceefkdchaaHeld
import Derived.Test.YtiaimceefkdchaaTurnB
namespace Go.Proofs.Ytiaimceefkdchaa
open Go.RowKit
set_option linter.unusedVariables false
set_option maxHeartbeats 8000000 in
set_option maxRecDepth 100000 in
theorem ref_op_bad2 (p : Ir) (AA : Option Addr) (ac : Nat) (bv : Value) (k d a b c i : Int) (L : ByteArray) (fd s1 s2 s3 : Bool) (qL : (L == ⟨#[]⟩) = false) (qL2 : (L.toList == ByteArray.toList ⟨#[]⟩) = false) (qL3 : (L.toList == []) = false) (Lsz : L.size ≤ 1000000) (h100 : hasC L 100 = fd) (h97 : hasC L 97 = s1) (g0 : decide (fieldP p fd d) = true) (g1 : decide (fieldP p s1 a) = false) (hLT : ∀ W, Calls Try.prog 98 #[.int .i64 k] W fun e w' => e = .returned (.string L) ∧ Below W.heap.size W w') (w : World) :
    Calls Try.prog 70 #[.agg #[.int .i64 p.temps, .slice AA p.arrays.length ac, bv, .int .i64 p.inp, .int .i64 p.out], .agg #[.int .i64 k, .int .i64 d, .int .i64 a, .int .i64 b, .int .i64 c, .int .i64 i]] w fun e w' => e = .returned (.bool false) ∧ Below w.heap.size w w' := by
  have HLT := Lib.hid hLT
  have hh0 := fun W => ref_has L 100 Lsz W
  rw [h100] at hh0
  have HH0 := Lib.hid hh0
  have hf0 := fun W => ref_field p (.slice AA p.arrays.length ac) bv fd d W
  rw [g0] at hf0
  unfold irVal at hf0
  have HF0 := Lib.hid hf0
  clear hh0 hf0 h100 g0
  have hh1 := fun W => ref_has L 97 Lsz W
  rw [h97] at hh1
  have HH1 := Lib.hid hh1
  have hf1 := fun W => ref_field p (.slice AA p.arrays.length ac) bv s1 a W
  rw [g1] at hf1
  unfold irVal at hf1
  have HF1 := Lib.hid hf1
  clear hh1 hf1 h97 g1
  clear hLT Lsz
  go_enter Try.func70, Try.ntmps70
  go_wp2_with fail
  refine (HLT.out _).mono ?_
  rintro e w2 ⟨rfl, hb⟩
  have hxp := (hb.block w.heap.size (by first | (simp; done) | (simp; omega))).trans (((bnew (w.alloc (.cells #[.int .i64 p.temps, .slice AA p.arrays.length ac, bv, .int .i64 p.inp, .int .i64 p.out] 25)) _).block w.heap.size (by simp)).trans (heap_alloc_new w _))
  have hxo := (hb.block (w.heap.size + 1) (by simp)).trans (alloc_new2 w _ _)
  have HXP := Lib.hid hxp
  have HXO := Lib.hid hxo
  have HBW := Lib.hid (bch (bal (bnew _ _) _) hb)
  clear hb hxp hxo
  go_wp2_with fail
  refine wp_region_L (fun w' => Below w2.heap.size w2 w') 99 (by kernel_rfl) ?_
  have hS0 : Below w2.heap.size w2 w2.drew := Below.drew (Below.refl _ _)
  refine wpAnyL_take (i := 0) (some 9) (.string L) rfl rfl (by kernel_rfl) (by kernel_rfl) (by kernel_rfl) (by kernel_rfl) (fun _ _ _ h => h) (by rfl) ?hvx3_0 hS0 ?restx3_0
  case hvx3_0 =>
    intro wz hSz
    go_simp
  try simp only [Act.put, List.setIfInBounds_toArray, List.set_cons_zero, List.set_cons_succ]
  refine wpAnyL_take (i := 1) (some 10) (.bool false) rfl rfl (by kernel_rfl) (by kernel_rfl) (by kernel_rfl) (by kernel_rfl) (fun _ _ _ h => h) (by rfl) ?hvx3_1 hS0 ?restx3_1
  case hvx3_1 =>
    intro wz hSz
    go_simp
  try simp only [Act.put, List.setIfInBounds_toArray, List.set_cons_zero, List.set_cons_succ]
  refine wpAnyL_take (i := 2) (some 11) (.bool false) rfl rfl (by kernel_rfl) (by kernel_rfl) (by kernel_rfl) (by kernel_rfl) (fun _ _ _ h => h) (by rfl) ?hvx3_2 hS0 ?restx3_2
  case hvx3_2 =>
    intro wz hSz
    go_simp
  try simp only [Act.put, List.setIfInBounds_toArray, List.set_cons_zero, List.set_cons_succ]
  refine wpAnyL_take (i := 3) (some 12) (.agg #[.int .i64 p.temps, .slice AA p.arrays.length ac, bv, .int .i64 p.inp, .int .i64 p.out]) rfl rfl (by kernel_rfl) (by kernel_rfl) (by kernel_rfl) (by kernel_rfl) (fun _ _ _ h => h) (by rfl) ?hvx3_3 hS0 ?restx3_3
  case hvx3_3 =>
    intro wz hSz
    obtain ⟨z0, z1, z2, z3, z4, _⟩ := ir_cells_at ((hSz.block _ (lt_of_blk HXP.out)).trans HXP.out)
    go_simp
  try simp only [Act.put, List.setIfInBounds_toArray, List.set_cons_zero, List.set_cons_succ]
  refine wpAnyL_take (i := 4) (some 13) (.string L) rfl rfl (by kernel_rfl) (by kernel_rfl) (by kernel_rfl) (by kernel_rfl) (fun _ _ _ h => h) (by rfl) ?hvx3_4 hS0 ?restx3_4
  case hvx3_4 =>
    intro wz hSz
    go_simp
  try simp only [Act.put, List.setIfInBounds_toArray, List.set_cons_zero, List.set_cons_succ]
  refine wpAnyL_take (i := 6) (some 15) (.pointer (some ⟨w.heap.size + 1, 1, none⟩)) rfl rfl (by kernel_rfl) (by kernel_rfl) (by kernel_rfl) (by kernel_rfl) (fun _ _ _ h => h) (by rfl) ?hvx3_6 hS0 ?restx3_6
  case hvx3_6 =>
    intro wz hSz
    go_simp
  try simp only [Act.put, List.setIfInBounds_toArray, List.set_cons_zero, List.set_cons_succ]
  refine wpAnyL_take (i := 7) (some 16) (.int .i64 d) rfl rfl (by kernel_rfl) (by kernel_rfl) (by kernel_rfl) (by kernel_rfl) (fun _ _ _ h => h) (by rfl) ?hvx3_7 hS0 ?restx3_7
  case hvx3_7 =>
    intro wz hSz
    obtain ⟨y0, y1, y2, y3, y4, y5, _, _, _, _⟩ := op_cells_at ((hSz.block _ (lt_of_blk HXO.out)).trans HXO.out)
    go_simp
  try simp only [Act.put, List.setIfInBounds_toArray, List.set_cons_zero, List.set_cons_succ]
  refine wpAnyL_one (i := 5) (by kernel_rfl) rfl ?_
  intro K hK
  rw [if_pos (by rfl)]
  go_simp
  refine (HH0.out _).mono ?_
  rintro e w' ⟨rfl, rfl⟩
  refine hK.out _ _ (fun _ => hS0) ?_
  clear hK
  try simp only [Act.put, List.setIfInBounds_toArray, List.set_cons_zero, List.set_cons_succ]
  refine wpAnyL_one (i := 8) (by kernel_rfl) rfl ?_
  intro K hK
  rw [if_pos (by rfl)]
  go_simp
  refine (HF0.out _).mono ?_
  rintro e wc1 ⟨rfl, hb⟩
  have hS1 := bch hS0 hb
  refine hK.out _ _ (fun _ => hS1) ?_
  clear hK hb
  try simp only [Act.put, List.setIfInBounds_toArray, List.set_cons_zero, List.set_cons_succ]
  refine wpAnyL_take (i := 9) (some 18) (.bool false) rfl rfl (by kernel_rfl) (by kernel_rfl) (by kernel_rfl) (by kernel_rfl) (fun _ _ _ h => h) (by rfl) ?hvx3_9 hS1 ?restx3_9
  case hvx3_9 =>
    intro wz hSz
    go_simp
  try simp only [Act.put, List.setIfInBounds_toArray, List.set_cons_zero, List.set_cons_succ]
  refine wpAnyL_take (i := 10) (some 19) (.bool false) rfl rfl (by kernel_rfl) (by kernel_rfl) (by kernel_rfl) (by kernel_rfl) (fun _ _ _ h => h) (by rfl) ?hvx3_10 hS1 ?restx3_10
  case hvx3_10 =>
    intro wz hSz
    go_simp
  try simp only [Act.put, List.setIfInBounds_toArray, List.set_cons_zero, List.set_cons_succ]
  refine wpAnyL_take (i := 11) (some 20) (.bool false) rfl rfl (by kernel_rfl) (by kernel_rfl) (by kernel_rfl) (by kernel_rfl) (fun _ _ _ h => h) (by rfl) ?hvx3_11 hS1 ?restx3_11
  case hvx3_11 =>
    intro wz hSz
    go_simp
  try simp only [Act.put, List.setIfInBounds_toArray, List.set_cons_zero, List.set_cons_succ]
  refine wpAnyL_take (i := 12) (some 21) (.agg #[.int .i64 p.temps, .slice AA p.arrays.length ac, bv, .int .i64 p.inp, .int .i64 p.out]) rfl rfl (by kernel_rfl) (by kernel_rfl) (by kernel_rfl) (by kernel_rfl) (fun _ _ _ h => h) (by rfl) ?hvx3_12 hS1 ?restx3_12
  case hvx3_12 =>
    intro wz hSz
    obtain ⟨z0, z1, z2, z3, z4, _⟩ := ir_cells_at ((hSz.block _ (lt_of_blk HXP.out)).trans HXP.out)
    go_simp
  try simp only [Act.put, List.setIfInBounds_toArray, List.set_cons_zero, List.set_cons_succ]
  refine wpAnyL_take (i := 13) (some 22) (.string L) rfl rfl (by kernel_rfl) (by kernel_rfl) (by kernel_rfl) (by kernel_rfl) (fun _ _ _ h => h) (by rfl) ?hvx3_13 hS1 ?restx3_13
  case hvx3_13 =>
    intro wz hSz
    go_simp
  try simp only [Act.put, List.setIfInBounds_toArray, List.set_cons_zero, List.set_cons_succ]
  refine wpAnyL_take (i := 15) (some 24) (.pointer (some ⟨w.heap.size + 1, 2, none⟩)) rfl rfl (by kernel_rfl) (by kernel_rfl) (by kernel_rfl) (by kernel_rfl) (fun _ _ _ h => h) (by rfl) ?hvx3_15 hS1 ?restx3_15
  case hvx3_15 =>
    intro wz hSz
    go_simp
  try simp only [Act.put, List.setIfInBounds_toArray, List.set_cons_zero, List.set_cons_succ]
  refine wpAnyL_take (i := 16) (some 25) (.int .i64 a) rfl rfl (by kernel_rfl) (by kernel_rfl) (by kernel_rfl) (by kernel_rfl) (fun _ _ _ h => h) (by rfl) ?hvx3_16 hS1 ?restx3_16
  case hvx3_16 =>
    intro wz hSz
    obtain ⟨y0, y1, y2, y3, y4, y5, _, _, _, _⟩ := op_cells_at ((hSz.block _ (lt_of_blk HXO.out)).trans HXO.out)
    go_simp
  try simp only [Act.put, List.setIfInBounds_toArray, List.set_cons_zero, List.set_cons_succ]
  refine wpAnyL_one (i := 14) (by kernel_rfl) rfl ?_
  intro K hK
  rw [if_pos (by rfl)]
  go_simp
  refine (HH1.out _).mono ?_
  rintro e w' ⟨rfl, rfl⟩
  refine hK.out _ _ (fun _ => hS1) ?_
  clear hK
  try simp only [Act.put, List.setIfInBounds_toArray, List.set_cons_zero, List.set_cons_succ]
  refine wpAnyL_one (i := 17) (by kernel_rfl) rfl ?_
  intro K hK
  rw [if_pos (by rfl)]
  go_simp
  refine (HF1.out _).mono ?_
  rintro e wc2 ⟨rfl, hb⟩
  have hS2 := bch hS1 hb
  refine hK.out _ _ (fun _ => hS2) ?_
  clear hK hb
  try simp only [Act.put, List.setIfInBounds_toArray, List.set_cons_zero, List.set_cons_succ]
  refine wpAnyL_take (i := 18) (some 27) (.bool true) rfl rfl (by kernel_rfl) (by kernel_rfl) (by kernel_rfl) (by kernel_rfl) (fun _ _ _ h => h) (by rfl) ?hvx3_18 hS2 ?restx3_18
  case hvx3_18 =>
    intro wz hSz
    go_simp
  try simp only [Act.put, List.setIfInBounds_toArray, List.set_cons_zero, List.set_cons_succ]
  refine wpAnyL_take (i := 19) (some 28) (.bool true) rfl rfl (by kernel_rfl) (by kernel_rfl) (by kernel_rfl) (by kernel_rfl) (fun _ _ _ h => h) (by rfl) ?hvx3_19 hS2 ?restx3_19
  case hvx3_19 =>
    intro wz hSz
    go_simp
  try simp only [Act.put, List.setIfInBounds_toArray, List.set_cons_zero, List.set_cons_succ]
  refine wpAnyL_take (i := 20) (some 29) (.bool true) rfl rfl (by kernel_rfl) (by kernel_rfl) (by kernel_rfl) (by kernel_rfl) (fun _ _ _ h => h) (by rfl) ?hvx3_20 hS2 ?restx3_20
  case hvx3_20 =>
    intro wz hSz
    go_simp
  try simp only [Act.put, List.setIfInBounds_toArray, List.set_cons_zero, List.set_cons_succ]
  refine wpAnyL_skip (i := 21) (some 30) rfl rfl (by kernel_rfl) (by kernel_rfl) (by kernel_rfl) (by kernel_rfl) (fun _ _ _ h => h) (by rfl) hS2 ?restx3_21
  try simp only [Act.put, List.setIfInBounds_toArray, List.set_cons_zero, List.set_cons_succ]
  refine wpAnyL_skip (i := 22) (some 31) rfl rfl (by kernel_rfl) (by kernel_rfl) (by kernel_rfl) (by kernel_rfl) (fun _ _ _ h => h) (by rfl) hS2 ?restx3_22
  try simp only [Act.put, List.setIfInBounds_toArray, List.set_cons_zero, List.set_cons_succ]
  refine wpAnyL_skip (i := 24) (some 33) rfl rfl (by kernel_rfl) (by kernel_rfl) (by kernel_rfl) (by kernel_rfl) (fun _ _ _ h => h) (by rfl) hS2 ?restx3_24
  try simp only [Act.put, List.setIfInBounds_toArray, List.set_cons_zero, List.set_cons_succ]
  refine wpAnyL_skip (i := 25) (some 34) rfl rfl (by kernel_rfl) (by kernel_rfl) (by kernel_rfl) (by kernel_rfl) (fun _ _ _ h => h) (by rfl) hS2 ?restx3_25
  try simp only [Act.put, List.setIfInBounds_toArray, List.set_cons_zero, List.set_cons_succ]
  refine wpAnyL_skip (i := 23) (some 32) rfl rfl (by kernel_rfl) (by kernel_rfl) (by kernel_rfl) (by kernel_rfl) (fun _ _ _ h => h) (by rfl) hS2 ?restx3_23
  try simp only [Act.put, List.setIfInBounds_toArray, List.set_cons_zero, List.set_cons_succ]
  refine wpAnyL_skip (i := 26) (some 35) rfl rfl (by kernel_rfl) (by kernel_rfl) (by kernel_rfl) (by kernel_rfl) (fun _ _ _ h => h) (by rfl) hS2 ?restx3_26
  try simp only [Act.put, List.setIfInBounds_toArray, List.set_cons_zero, List.set_cons_succ]
  refine wpAnyL_skip (i := 27) (some 36) rfl rfl (by kernel_rfl) (by kernel_rfl) (by kernel_rfl) (by kernel_rfl) (fun _ _ _ h => h) (by rfl) hS2 ?restx3_27
  try simp only [Act.put, List.setIfInBounds_toArray, List.set_cons_zero, List.set_cons_succ]
  refine wpAnyL_take (i := 28) (some 37) (.bool true) rfl rfl (by kernel_rfl) (by kernel_rfl) (by kernel_rfl) (by kernel_rfl) (fun _ _ _ h => h) (by rfl) ?hvx3_28 hS2 ?restx3_28
  case hvx3_28 =>
    intro wz hSz
    go_simp
  try simp only [Act.put, List.setIfInBounds_toArray, List.set_cons_zero, List.set_cons_succ]
  refine wpAnyL_take (i := 29) (some 38) (.bool true) rfl rfl (by kernel_rfl) (by kernel_rfl) (by kernel_rfl) (by kernel_rfl) (fun _ _ _ h => h) (by rfl) ?hvx3_29 hS2 ?restx3_29
  case hvx3_29 =>
    intro wz hSz
    go_simp
  try simp only [Act.put, List.setIfInBounds_toArray, List.set_cons_zero, List.set_cons_succ]
  refine wpAnyL_skip (i := 30) (some 39) rfl rfl (by kernel_rfl) (by kernel_rfl) (by kernel_rfl) (by kernel_rfl) (fun _ _ _ h => h) (by rfl) hS2 ?restx3_30
  try simp only [Act.put, List.setIfInBounds_toArray, List.set_cons_zero, List.set_cons_succ]
  refine wpAnyL_skip (i := 31) (some 40) rfl rfl (by kernel_rfl) (by kernel_rfl) (by kernel_rfl) (by kernel_rfl) (fun _ _ _ h => h) (by rfl) hS2 ?restx3_31
  try simp only [Act.put, List.setIfInBounds_toArray, List.set_cons_zero, List.set_cons_succ]
  refine wpAnyL_skip (i := 33) (some 42) rfl rfl (by kernel_rfl) (by kernel_rfl) (by kernel_rfl) (by kernel_rfl) (fun _ _ _ h => h) (by rfl) hS2 ?restx3_33
  try simp only [Act.put, List.setIfInBounds_toArray, List.set_cons_zero, List.set_cons_succ]
  refine wpAnyL_skip (i := 34) (some 43) rfl rfl (by kernel_rfl) (by kernel_rfl) (by kernel_rfl) (by kernel_rfl) (fun _ _ _ h => h) (by rfl) hS2 ?restx3_34
  try simp only [Act.put, List.setIfInBounds_toArray, List.set_cons_zero, List.set_cons_succ]
  refine wpAnyL_skip (i := 32) (some 41) rfl rfl (by kernel_rfl) (by kernel_rfl) (by kernel_rfl) (by kernel_rfl) (fun _ _ _ h => h) (by rfl) hS2 ?restx3_32
  try simp only [Act.put, List.setIfInBounds_toArray, List.set_cons_zero, List.set_cons_succ]
  refine wpAnyL_skip (i := 35) (some 44) rfl rfl (by kernel_rfl) (by kernel_rfl) (by kernel_rfl) (by kernel_rfl) (fun _ _ _ h => h) (by rfl) hS2 ?restx3_35
  try simp only [Act.put, List.setIfInBounds_toArray, List.set_cons_zero, List.set_cons_succ]
  refine wpAnyL_skip (i := 36) (some 45) rfl rfl (by kernel_rfl) (by kernel_rfl) (by kernel_rfl) (by kernel_rfl) (fun _ _ _ h => h) (by rfl) hS2 ?restx3_36
  try simp only [Act.put, List.setIfInBounds_toArray, List.set_cons_zero, List.set_cons_succ]
  refine wpAnyL_take (i := 37) (some 46) (.bool true) rfl rfl (by kernel_rfl) (by kernel_rfl) (by kernel_rfl) (by kernel_rfl) (fun _ _ _ h => h) (by rfl) ?hvx3_37 hS2 ?restx3_37
  case hvx3_37 =>
    intro wz hSz
    go_simp
  try simp only [Act.put, List.setIfInBounds_toArray, List.set_cons_zero, List.set_cons_succ]
  refine wpAnyL_take (i := 38) (some 47) (.bool true) rfl rfl (by kernel_rfl) (by kernel_rfl) (by kernel_rfl) (by kernel_rfl) (fun _ _ _ h => h) (by rfl) ?hvx3_38 hS2 ?restx3_38
  case hvx3_38 =>
    intro wz hSz
    go_simp
  try simp only [Act.put, List.setIfInBounds_toArray, List.set_cons_zero, List.set_cons_succ]
  refine wpAnyL_skip (i := 39) (some 48) rfl rfl (by kernel_rfl) (by kernel_rfl) (by kernel_rfl) (by kernel_rfl) (fun _ _ _ h => h) (by rfl) hS2 ?restx3_39
  try simp only [Act.put, List.setIfInBounds_toArray, List.set_cons_zero, List.set_cons_succ]
  refine wpAnyL_skip (i := 40) (some 49) rfl rfl (by kernel_rfl) (by kernel_rfl) (by kernel_rfl) (by kernel_rfl) (fun _ _ _ h => h) (by rfl) hS2 ?restx3_40
  try simp only [Act.put, List.setIfInBounds_toArray, List.set_cons_zero, List.set_cons_succ]
  refine wpAnyL_skip (i := 41) (some 50) rfl rfl (by kernel_rfl) (by kernel_rfl) (by kernel_rfl) (by kernel_rfl) (fun _ _ _ h => h) (by rfl) hS2 ?restx3_41
  try simp only [Act.put, List.setIfInBounds_toArray, List.set_cons_zero, List.set_cons_succ]
  refine wpAnyL_take (i := 42) (some 51) (.bool true) rfl rfl (by kernel_rfl) (by kernel_rfl) (by kernel_rfl) (by kernel_rfl) (fun _ _ _ h => h) (by rfl) ?hvx3_42 hS2 ?restx3_42
  case hvx3_42 =>
    intro wz hSz
    go_simp
  try simp only [Act.put, List.setIfInBounds_toArray, List.set_cons_zero, List.set_cons_succ]
  refine wpAnyL_done (by kernel_rfl) ?_ _
  go_wp2_with fail
  go_ret
  exact ⟨rfl, bch HBW.out hS2⟩
end Go.Proofs.Ytiaimceefkdchaa
