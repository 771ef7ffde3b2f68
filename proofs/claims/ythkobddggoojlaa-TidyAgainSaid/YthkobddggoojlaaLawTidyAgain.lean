/- The Go function TidyAgain returns true on every input and leaves its arguments as they were. No condition. -/
import Derived.Test.YthkobddggoojlaaRows
import Derived.WalkKit
import Derived.ProofKit
import Derived.OpenShut
import Derived.Test.YthkobddggoojlaaLawKit
import Derived.SizedLaws
import Derived.Test.YthkobddggoojlaaTeG5e25
import Derived.Test.YthkobddggoojlaaTeSame
import Derived.Test.YthkobddggoojlaaTeG1be16
import Derived.Test.YthkobddggoojlaaTeG2e17
namespace Go.Proofs.Ythkobddggoojlaa.tidyAgain
open Go.ChangeShapes Go.WideShapes Go.ChangeAt Go.RowKit
set_option linter.unusedVariables false

set_option maxRecDepth 100000 in
set_option maxHeartbeats 1000000 in
theorem bad (p : Ir) (av bv : Value) (hf : p.fine) (he : irErr p ≠ 0) (w : World) (hI : IrRep w w.heap.size p av bv) : Calls Try.prog 4 #[irVal p av bv] w fun e w' => e = .returned (.bool true) ∧ Below w.heap.size w w' := by
  have HC := Lib.hid (fun W h => ir_Check p av bv hf W h)
  have HCP := Lib.hid (fun W h => tidy_Tidy_bad p av bv hf he W h)
  have HFW := Lib.hid (fun W h => law23_few p av bv W h)
  have HLV := Lib.hid (fun W => law23_lives W)
  have q : (irErr p != 0) = true := by rw [bne_iff_ne]; exact he
  have qe : (irErr p == irErr p) = true := by simp
  unfold irVal at HC HCP HFW ⊢
  unfold PassPost irZero at HCP
  unfold FewPost at HFW
  simp only [List.length_nil] at HCP
  generalize irErr p = fe at *
  have HX := Lib.hid (heap_alloc_new w (.cells #[.int .i64 p.temps, av, bv, .int .i64 p.inp, .int .i64 p.out] 25))
  have hb := bnew w (.cells #[.int .i64 p.temps, av, bv, .int .i64 p.inp, .int .i64 p.out] 25)
  have HIW := Lib.hid (hI.next hb)
  have HB := Lib.hid hb
  clear hI he hf hb
  go_enter Try.func4, Try.ntmps4
  go_wp2_with fail
  generalize w.alloc (.cells #[.int .i64 p.temps, av, bv, .int .i64 p.inp, .int .i64 p.out] 25) = w1 at *
  refine (HFW.out _ HIW.out).mono ?_
  rintro e w9 ⟨⟨fb, rfl⟩, hb9⟩
  have HXb := Lib.hid ((hb9.block _ (lt_of_blk HX.out)).trans HX.out)
  have HBb := Lib.hid (bch HB.out hb9)
  have HIb := Lib.hid (HIW.out.next hb9)
  obtain ⟨c0, c1, c2, c3, c4, _⟩ := ir_cells_at HXb.out
  clear hb9
  cases fb with
  | false =>
    go_wp2_with fail
    refine (HLV.out _).mono ?_
    rintro e w3 ⟨rfl, hb3⟩
    go_wp2_with fail
    go_ret
    exact ⟨rfl, bch HBb.out hb3⟩
  | true =>
    go_wp2_with fail
    refine (HCP.out _ HIb.out).mono ?_
    rintro e w2 ⟨A, ac, C, bc, rfl, hIq, hb2⟩
    have hx2 := alloc_old ((hb2.block _ (lt_of_blk HXb.out)).trans HXb.out) (.cells #[.int .i64 0, .slice A 0 ac, .slice C 0 bc, .int .i64 0, .int .i64 0] 25)
    have HB2 := Lib.hid (bal (bch HBb.out hb2) (.cells #[.int .i64 0, .slice A 0 ac, .slice C 0 bc, .int .i64 0, .int .i64 0] 25))
    have HI2 := Lib.hid ((HIb.out.next hb2).next (bnew w2 (.cells #[.int .i64 0, .slice A 0 ac, .slice C 0 bc, .int .i64 0, .int .i64 0] 25)))
    clear c0 c1 c2 c3 c4
    obtain ⟨c0, c1, c2, c3, c4, _⟩ := ir_cells_at hx2
    clear hx2 hIq hb2
    go_wp2_with fail
    generalize w2.alloc (.cells #[.int .i64 0, .slice A 0 ac, .slice C 0 bc, .int .i64 0, .int .i64 0] 25) = w3 at *
    refine (HC.out _ HI2.out).mono ?_
    rintro e w4 ⟨rfl, hb4⟩
    have HB4 := Lib.hid (bch HB2.out hb4)
    clear c0 c1 c2 c3 c4 hb4
    go_wp2_with fail
    refine (HLV.out _).mono ?_
    rintro e w5 ⟨rfl, hb5⟩
    go_wp2_with fail
    go_ret
    exact ⟨rfl, bch HB4.out hb5⟩
set_option maxRecDepth 100000 in
set_option maxHeartbeats 1000000 in
theorem good (p : Ir) (av bv : Value) (hf : p.fine) (he : irErr p = 0) (s0 : List Bool) (hs0 : TdIn (tdStr p.blocks) s0) (w : World) (hI : IrRep w w.heap.size p av bv) : Calls Try.prog 4 #[irVal p av bv] w fun e w' => e = .returned (.bool true) ∧ Below w.heap.size w w' := by
  have HCP := Lib.hid (fun W h => tidy_Tidy p av bv hf he s0 hs0 W h)
  have HFW := Lib.hid (fun W h => law23_few p av bv W h)
  have HLV := Lib.hid (fun W => law23_lives W)
  have hqe := td_err he hs0
  have hqf := td_fine he hs0 hf
  obtain ⟨hid1, hid2⟩ := tdIr_idem he hs0
  obtain ⟨ha1, ha2, ha3, ha4, ha5⟩ := td_again he hs0
  obtain ⟨BA, pbc, rfl, hbc⟩ := hI.2.form
  generalize tdIr p s0 = q at *
  have HCQ := Lib.hid (fun av bv W h => tidy_Tidy q av bv hqf hqe _ hid1 W h)
  rw [hid2] at HCQ
  have HSM := Lib.hid (fun av bv cv dv W h k => ref17_Same q hqf av bv cv dv W h k)
  have hqn : q.blocks.length ≤ 1048576 := by
    have h := (irErr_ok hqe).1
    unfold greatP at h
    omega
  have HQOK := Lib.hid ha3
  have HRE := Lib.hid ha4
  have HFX := Lib.hid ha5
  have HPS := Lib.hid (fun (A : Option Addr) (c B : Nat) (x : Int) hx hfx W h => law23_passes q.blocks ha3 hqn A c B x hx hfx W h)
  have HAO := Lib.hid (AgOut.start ha1)
  have HP0 := Lib.hid ha1
  have qz : ((q.blocks.length : Int) == 0) = false := by rw [beq_eq_false_iff_ne]; omega
  have qg : ¬ ((p.blocks.length : Int) < (q.blocks.length : Int)) := by omega
  have qg2 : decide (p.blocks.length < q.blocks.length) = false := decide_eq_false (by omega)
  have qg3 : decide ((p.blocks.length : Int) < (q.blocks.length : Int)) = false := decide_eq_false qg
  unfold irVal at HCP HCQ HSM HFW ⊢
  unfold PassPost at HCP HCQ
  unfold FewPost at HFW
  have HX := Lib.hid (heap_alloc_new w (.cells #[.int .i64 p.temps, av, .slice BA p.blocks.length pbc, .int .i64 p.inp, .int .i64 p.out] 25))
  have hb := bnew w (.cells #[.int .i64 p.temps, av, .slice BA p.blocks.length pbc, .int .i64 p.inp, .int .i64 p.out] 25)
  have HIW := Lib.hid (hI.next hb)
  have HB := Lib.hid hb
  clear hI he hf hb hqe hqf hid1 hid2 ha1 ha2 ha3 ha4 ha5 hbc hs0
  go_enter Try.func4, Try.ntmps4
  go_wp2_with fail
  generalize w.alloc (.cells #[.int .i64 p.temps, av, .slice BA p.blocks.length pbc, .int .i64 p.inp, .int .i64 p.out] 25) = w1 at *
  refine (HFW.out _ HIW.out).mono ?_
  rintro e w9 ⟨⟨fb, rfl⟩, hb9⟩
  have HXb := Lib.hid ((hb9.block _ (lt_of_blk HX.out)).trans HX.out)
  have HBb := Lib.hid (bch HB.out hb9)
  have HIb := Lib.hid (HIW.out.next hb9)
  obtain ⟨c0, c1, c2, c3, c4, _⟩ := ir_cells_at HXb.out
  clear hb9
  cases fb with
  | false =>
    go_wp2_with fail
    refine (HLV.out _).mono ?_
    rintro e w3 ⟨rfl, hb3⟩
    go_wp2_with fail
    go_ret
    exact ⟨rfl, bch HBb.out hb3⟩
  | true =>
    go_wp2_with fail
    refine (HCP.out _ HIb.out).mono ?_
    rintro e w2 ⟨A, ac, C, bc, rfl, hIq, hb2⟩
    have HX3 := Lib.hid (alloc_old ((hb2.block _ (lt_of_blk HXb.out)).trans HXb.out) (.cells #[.int .i64 q.temps, .slice A q.arrays.length ac, .slice C q.blocks.length bc, .int .i64 q.inp, .int .i64 q.out] 25))
    have HY3 := Lib.hid (heap_alloc_new w2 (.cells #[.int .i64 q.temps, .slice A q.arrays.length ac, .slice C q.blocks.length bc, .int .i64 q.inp, .int .i64 q.out] 25))
    have hb3 := bnew w2 (.cells #[.int .i64 q.temps, .slice A q.arrays.length ac, .slice C q.blocks.length bc, .int .i64 q.inp, .int .i64 q.out] 25)
    have HB3 := Lib.hid (bch (bch HBb.out hb2) hb3)
    have HQ3 := Lib.hid (hIq.next hb3)
    clear c0 c1 c2 c3 c4
    obtain ⟨c0, c1, c2, c3, c4, _⟩ := ir_cells_at HY3.out
    clear hIq hb2 hb3
    go_wp2_with fail
    generalize w2.alloc (.cells #[.int .i64 q.temps, .slice A q.arrays.length ac, .slice C q.blocks.length bc, .int .i64 q.inp, .int .i64 q.out] 25) = w3 at *
    refine (HCQ.out _ _ _ HQ3.out).mono ?_
    rintro e w6 ⟨A2, ac2, C2, bc2, rfl, hIr, hb6⟩
    have HZ7 := Lib.hid (heap_alloc_new w6 (.cells #[.int .i64 q.temps, .slice A2 q.arrays.length ac2, .slice C2 q.blocks.length bc2, .int .i64 q.inp, .int .i64 q.out] 25))
    have hb7 := bnew w6 (.cells #[.int .i64 q.temps, .slice A2 q.arrays.length ac2, .slice C2 q.blocks.length bc2, .int .i64 q.inp, .int .i64 q.out] 25)
    have HX7 := Lib.hid (((bch hb6 hb7).block _ (lt_of_blk HX3.out)).trans HX3.out)
    have HY7 := Lib.hid (((bch hb6 hb7).block _ (lt_of_blk HY3.out)).trans HY3.out)
    have HB7 := Lib.hid (bch HB3.out (bch hb6 hb7))
    have HQ7 := Lib.hid (IrRep.next HQ3.out (bch hb6 hb7))
    have HR7 := Lib.hid (hIr.next hb7)
    clear c0 c1 c2 c3 c4 hIr hb6 hb7
    obtain ⟨c0, c1, c2, c3, c4, _⟩ := ir_cells_at HY7.out
    obtain ⟨e0, e1, e2, e3, e4, _⟩ := ir_cells_at HZ7.out
    go_wp2_with fail
    generalize w6.alloc (.cells #[.int .i64 q.temps, .slice A2 q.arrays.length ac2, .slice C2 q.blocks.length bc2, .int .i64 q.inp, .int .i64 q.out] 25) = w7 at *
    refine (HSM.out _ _ _ _ _ HQ7.out HR7.out).mono ?_
    rintro e w8 ⟨rfl, hb8⟩
    have HX8 := Lib.hid ((hb8.block _ (lt_of_blk HX7.out)).trans HX7.out)
    have HY8 := Lib.hid ((hb8.block _ (lt_of_blk HY7.out)).trans HY7.out)
    have HB8 := Lib.hid (bch HB7.out hb8)
    have HQ8 := Lib.hid (IrRep.next HQ7.out hb8)
    clear c0 c1 c2 c3 c4 e0 e1 e2 e3 e4 hb8
    have c2 := (ir_cells_at HX8.out).2.2.1
    have d2 := (ir_cells_at HY8.out).2.2.1
    have hmk := run_make_bools q.blocks.length (by omega) w8
    have hb9 := bnew w8 (.cells (bools (List.replicate q.blocks.length false)) 4)
    have hv9 := heap_alloc_new w8 (.cells (bools (List.replicate q.blocks.length false)) 4)
    obtain ⟨z0, z1⟩ := cell_of_blk hv9 0
    rw [bools_at (show 0 < (List.replicate q.blocks.length false).length by rw [List.length_replicate]; exact HP0.out)] at z0
    have HV9 : Hid ((w8.alloc (.cells ((bools (List.replicate q.blocks.length false)).setIfInBounds 0 (.bool true)) 4)).heap[w8.heap.size]? = some (.cells (bools ((List.replicate q.blocks.length false).set 0 true)) 4 (0, 0))) := Lib.hid (by rw [bools_set]; exact heap_alloc_new w8 _)
    have HB9 := Lib.hid (bnew w8 (.cells ((bools (List.replicate q.blocks.length false)).setIfInBounds 0 (.bool true)) 4))
    have m1 : (0 : Int) < (q.blocks.length : Int) := by have := HP0.out; omega
    clear hb9 hv9
    go_wp2_with fail
    clear c2 d2 z0 z1 hmk
    go_loopw [8] (fun vn wr => ∃ (n : Nat) (g : List Bool), n ≤ q.blocks.length ∧ vn = .int .i64 n ∧ AgOut q.blocks n g ∧ wr.heap[w8.heap.size]? = some (.cells (bools g) 4 (0, 0)) ∧ Below w8.heap.size w8 wr) (fun vn _ => q.blocks.length - (intOf vn).toNat)
    case atStart => exact ⟨0, _, Nat.zero_le _, rfl, HAO.out, HV9.out, HB9.out⟩
    case round =>
      obtain ⟨n, g, hn, rfl, hag, hvr, hbr⟩ := hrel
      have HAG := Lib.hid hag
      have HVr := Lib.hid hvr
      have HBr := Lib.hid hbr
      have y2 := (ir_cells_at ((hbr.block _ (lt_of_blk HY8.out)).trans HY8.out)).2.2.1
      clear hag hvr hbr
      by_cases hlt : n < q.blocks.length
      · go_wp2_with fail
        clear y2
        generalize wr = wo at *
        go_loopw [9] (fun vi wr => ∃ (i : Nat) (g1 : List Bool), i ≤ q.blocks.length ∧ vi = .int .i64 i ∧ AgIn q.blocks g i g1 ∧ wr.heap[w8.heap.size]? = some (.cells (bools g1) 4 (0, 0)) ∧ Below w8.heap.size w8 wr) (fun vi _ => q.blocks.length - (intOf vi).toNat)
        case atStart => exact ⟨0, g, Nat.zero_le _, rfl, AgIn.start HAG.out.len HAG.out.zero, HVr.out, HBr.out⟩
        case round =>
          obtain ⟨i, g1, hi, rfl, hin, hvi, hbi⟩ := hrel
          have HIN := Lib.hid hin
          have HVi := Lib.hid hvi
          have HBi := Lib.hid hbi
          have y2 := (ir_cells_at ((hbi.block _ (lt_of_blk HY8.out)).trans HY8.out)).2.2.1
          clear hin hvi hbi
          by_cases hil : i < q.blocks.length
          · have HST := Lib.hid (HIN.out.step HQOK.out hil)
            have ht := HQOK.out.at_ i hil
            obtain ⟨b, off, rfl, hb0, OA, oc, _, _, _, x1, x2, x3, x4⟩ := blk_at (HQ8.out.2.below HBi.out (Nat.le_refl _)) i hil
            obtain ⟨bk, hbk⟩ : ∃ bk, q.blocks.getD i blkNone = bk := ⟨_, rfl⟩
            rw [hbk] at x1 x2 x3 x4 ht HST
            obtain ⟨ops, trm⟩ := bk
            obtain ⟨tk, ta, ty, tn⟩ := trm
            simp only at x1 x2 x3 x4 ht HST
            have k0 : (0 : Int) ≤ (i : Int) := by omega
            have k1 : (i : Int) < (q.blocks.length : Int) := by omega
            have HXA := Lib.hid (heap_alloc_new wr (.cells #[.int .i64 tk, .int .i64 ta, .int .i64 ty, .int .i64 tn] 38))
            have HBA := Lib.hid (bnew wr (.cells #[.int .i64 tk, .int .i64 ta, .int .i64 ty, .int .i64 tn] 38))
            have HLE : Hid (w8.heap.size < wr.heap.size) := Lib.hid (lt_of_blk HVi.out)
            have HGL : Hid (g1.length = q.blocks.length) := Lib.hid HIN.out.len
            clear hbk
            go_upto_region 18 with (fail)
            clear x1 x2 x3 x4 y2
            have HVa := Lib.hid ((HBA.out.block _ (lt_of_blk HVi.out)).trans HVi.out)
            have HBa := Lib.hid (HBi.out.trans (HBA.out.mono HBi.out.size))
            generalize wr.alloc (.cells #[.int .i64 tk, .int .i64 ta, .int .i64 ty, .int .i64 tn] 38) = wa at *
            generalize wr.heap.size = X at *
            obtain ⟨z0, z1⟩ := cell_of_blk HVa.out i
            rw [bools_at (show i < g1.length by rw [HGL.out]; exact hil)] at z0
            obtain ⟨c0, _⟩ := cell_of_blk HXA.out 0
            obtain ⟨c1, _⟩ := cell_of_blk HXA.out 1
            obtain ⟨c2, _⟩ := cell_of_blk HXA.out 2
            obtain ⟨c3, _⟩ := cell_of_blk HXA.out 3
            by_cases hgi : g1.getD i false = true
            · rw [hgi] at z0
              rcases ht with ⟨rfl, hty⟩ | ⟨rfl, hty, htn⟩ | rfl
              · by_cases ey : ty = -1
                · have hgi9 := hgi
                  replace hty : tdLab q.blocks.length ty := hty
                  obtain rfl : ty = -1 := by have := hty.1; omega
                  have HEQ : Hid (agStep ⟨1, ta, -1, tn⟩ i g1 = g1) := Lib.hid (by rw [agStep_true hgi]; simp [agSet])
                  rw [HEQ.out] at HST
                  clear HEQ
                  have HV1 := Lib.hid HVa.out
                  have HB1 := Lib.hid HBa.out
                  have HX1 := Lib.hid HXA.out
                  go_upto_region 20 with (fail)
                  clear z0 z1 c0 c1 c2 c3
                  generalize wa = wb at *
                  obtain ⟨z0, z1⟩ := cell_of_blk HV1.out i
                  have hgt : g1.getD i false = true := hgi
                  have hgl : g1.length = q.blocks.length := by exact HGL.out
                  rw [bools_at (show i < g1.length by rw [hgl]; exact hil), hgt] at z0
                  obtain ⟨c0, _⟩ := cell_of_blk HX1.out 0
                  obtain ⟨c1, _⟩ := cell_of_blk HX1.out 1
                  obtain ⟨c2, _⟩ := cell_of_blk HX1.out 2
                  obtain ⟨c3, _⟩ := cell_of_blk HX1.out 3
                  have HEND : Hid (AgIn q.blocks g (i + 1) g1 ∧ wb.heap[w8.heap.size]? = some (.cells (bools g1) 4 (0, 0)) ∧ Below w8.heap.size w8 wb) := Lib.hid ⟨HST.out, HV1.out, HB1.out⟩
                  clear hgt hgl hgi9
                  clear hgi
                  go_wp2_with fail
                  go_roundw
                  case rel => exact ⟨i + 1, _, by omega, by go_num, HEND.out⟩
                  case measure => simp [intOf]; omega
                · have hgi9 := hgi
                  replace hty : tdLab q.blocks.length ty := hty
                  obtain ⟨my, rfl⟩ : ∃ my : Nat, ty = my := ⟨ty.toNat, by have := hty.1; omega⟩
                  have hmy : my < q.blocks.length := by have := hty.2; omega
                  have y0 : (0 : Int) ≤ (my : Int) := by omega
                  have y1 : (my : Int) < (q.blocks.length : Int) := by omega
                  have HEQ : Hid (agStep ⟨1, ta, (my : Int), tn⟩ i g1 = (g1.set my true)) := Lib.hid (by rw [agStep_true hgi]; simp [agSet])
                  rw [HEQ.out] at HST
                  clear HEQ
                  obtain ⟨o0, o1⟩ := cell_of_blk HVa.out my
                  rw [bools_at (show my < g1.length by rw [HGL.out]; exact hmy)] at o0
                  have hv1 : (wa.setCell ⟨w8.heap.size, my, none⟩ (.bool true)).heap[w8.heap.size]? = some (.cells (bools (g1.set my true)) 4 (0, 0)) := by have h := blk_set HVa.out my (.bool true); rw [bools_set] at h; exact h
                  have HV1 := Lib.hid hv1
                  have HB1 := Lib.hid (HBa.out.setCell (p := ⟨w8.heap.size, my, none⟩) (Nat.le_refl _) (.bool true))
                  have HX1 := Lib.hid (blk_far HXA.out ⟨w8.heap.size, my, none⟩ (.bool true) (by have := HLE.out; show w8.heap.size ≠ X; omega))
                  clear hv1
                  go_upto_region 20 with (fail)
                  clear z0 z1 c0 c1 c2 c3 o0 o1
                  generalize wa.setCell ⟨w8.heap.size, my, none⟩ (.bool true) = wb at *
                  obtain ⟨z0, z1⟩ := cell_of_blk HV1.out i
                  have hgt : (g1.set my true).getD i false = true := set_true_getD g1 my i hgi
                  have hgl : (g1.set my true).length = q.blocks.length := by rw [List.length_set]; exact HGL.out
                  rw [bools_at (show i < (g1.set my true).length by rw [hgl]; exact hil), hgt] at z0
                  obtain ⟨c0, _⟩ := cell_of_blk HX1.out 0
                  obtain ⟨c1, _⟩ := cell_of_blk HX1.out 1
                  obtain ⟨c2, _⟩ := cell_of_blk HX1.out 2
                  obtain ⟨c3, _⟩ := cell_of_blk HX1.out 3
                  have HEND : Hid (AgIn q.blocks g (i + 1) (g1.set my true) ∧ wb.heap[w8.heap.size]? = some (.cells (bools (g1.set my true)) 4 (0, 0)) ∧ Below w8.heap.size w8 wb) := Lib.hid ⟨HST.out, HV1.out, HB1.out⟩
                  clear hgt hgl hgi9
                  clear hgi
                  go_wp2_with fail
                  go_roundw
                  case rel => exact ⟨i + 1, _, by omega, by go_num, HEND.out⟩
                  case measure => simp [intOf]; omega
              · by_cases ey : ty = -1
                · by_cases en : tn = -1
                  · have hgi9 := hgi
                    replace hty : tdLab q.blocks.length ty := hty
                    replace htn : tdLab q.blocks.length tn := htn
                    obtain rfl : ty = -1 := by have := hty.1; omega
                    obtain rfl : tn = -1 := by have := htn.1; omega
                    have HEQ : Hid (agStep ⟨2, ta, -1, -1⟩ i g1 = g1) := Lib.hid (by rw [agStep_true hgi]; simp [agSet])
                    rw [HEQ.out] at HST
                    clear HEQ
                    have HV1 := Lib.hid HVa.out
                    have HB1 := Lib.hid HBa.out
                    have HX1 := Lib.hid HXA.out
                    go_upto_region 20 with (fail)
                    clear z0 z1 c0 c1 c2 c3
                    generalize wa = wb at *
                    obtain ⟨z0, z1⟩ := cell_of_blk HV1.out i
                    have hgt : g1.getD i false = true := hgi
                    have hgl : g1.length = q.blocks.length := by exact HGL.out
                    rw [bools_at (show i < g1.length by rw [hgl]; exact hil), hgt] at z0
                    obtain ⟨c0, _⟩ := cell_of_blk HX1.out 0
                    obtain ⟨c1, _⟩ := cell_of_blk HX1.out 1
                    obtain ⟨c2, _⟩ := cell_of_blk HX1.out 2
                    obtain ⟨c3, _⟩ := cell_of_blk HX1.out 3
                    have HEND : Hid (AgIn q.blocks g (i + 1) g1 ∧ wb.heap[w8.heap.size]? = some (.cells (bools g1) 4 (0, 0)) ∧ Below w8.heap.size w8 wb) := Lib.hid ⟨HST.out, HV1.out, HB1.out⟩
                    clear hgt hgl hgi9
                    clear hgi
                    go_wp2_with fail
                    go_roundw
                    case rel => exact ⟨i + 1, _, by omega, by go_num, HEND.out⟩
                    case measure => simp [intOf]; omega
                  · have hgi9 := hgi
                    replace hty : tdLab q.blocks.length ty := hty
                    replace htn : tdLab q.blocks.length tn := htn
                    obtain rfl : ty = -1 := by have := hty.1; omega
                    obtain ⟨mn, rfl⟩ : ∃ mn : Nat, tn = mn := ⟨tn.toNat, by have := htn.1; omega⟩
                    have hmn : mn < q.blocks.length := by have := htn.2; omega
                    have n0 : (0 : Int) ≤ (mn : Int) := by omega
                    have n1 : (mn : Int) < (q.blocks.length : Int) := by omega
                    have HEQ : Hid (agStep ⟨2, ta, -1, (mn : Int)⟩ i g1 = (g1.set mn true)) := Lib.hid (by rw [agStep_true hgi]; simp [agSet])
                    rw [HEQ.out] at HST
                    clear HEQ
                    have HV1 := Lib.hid HVa.out
                    have HB1 := Lib.hid HBa.out
                    have HX1 := Lib.hid HXA.out
                    go_upto_region 20 with (fail)
                    clear z0 z1 c0 c1 c2 c3
                    generalize wa = wb at *
                    obtain ⟨z0, z1⟩ := cell_of_blk HV1.out i
                    have hgt : g1.getD i false = true := hgi
                    have hgl : g1.length = q.blocks.length := by exact HGL.out
                    rw [bools_at (show i < g1.length by rw [hgl]; exact hil), hgt] at z0
                    obtain ⟨c0, _⟩ := cell_of_blk HX1.out 0
                    obtain ⟨c1, _⟩ := cell_of_blk HX1.out 1
                    obtain ⟨c2, _⟩ := cell_of_blk HX1.out 2
                    obtain ⟨c3, _⟩ := cell_of_blk HX1.out 3
                    obtain ⟨o0, o1⟩ := cell_of_blk HV1.out mn
                    rw [bools_at (show mn < g1.length by rw [hgl]; exact hmn)] at o0
                    have HEND : Hid (AgIn q.blocks g (i + 1) (g1.set mn true) ∧ (wb.setCell ⟨w8.heap.size, mn, none⟩ (.bool true)).heap[w8.heap.size]? = some (.cells (bools (g1.set mn true)) 4 (0, 0)) ∧ Below w8.heap.size w8 (wb.setCell ⟨w8.heap.size, mn, none⟩ (.bool true))) := Lib.hid ⟨HST.out, by have h := blk_set HV1.out mn (.bool true); rw [bools_set] at h; exact h, HB1.out.setCell (p := ⟨w8.heap.size, mn, none⟩) (Nat.le_refl _) (.bool true)⟩
                    clear hgt hgl hgi9
                    clear hgi
                    go_wp2_with fail
                    go_roundw
                    case rel => exact ⟨i + 1, _, by omega, by go_num, HEND.out⟩
                    case measure => simp [intOf]; omega
                · by_cases en : tn = -1
                  · have hgi9 := hgi
                    replace hty : tdLab q.blocks.length ty := hty
                    replace htn : tdLab q.blocks.length tn := htn
                    obtain ⟨my, rfl⟩ : ∃ my : Nat, ty = my := ⟨ty.toNat, by have := hty.1; omega⟩
                    have hmy : my < q.blocks.length := by have := hty.2; omega
                    have y0 : (0 : Int) ≤ (my : Int) := by omega
                    have y1 : (my : Int) < (q.blocks.length : Int) := by omega
                    obtain rfl : tn = -1 := by have := htn.1; omega
                    have HEQ : Hid (agStep ⟨2, ta, (my : Int), -1⟩ i g1 = (g1.set my true)) := Lib.hid (by rw [agStep_true hgi]; simp [agSet])
                    rw [HEQ.out] at HST
                    clear HEQ
                    obtain ⟨o0, o1⟩ := cell_of_blk HVa.out my
                    rw [bools_at (show my < g1.length by rw [HGL.out]; exact hmy)] at o0
                    have hv1 : (wa.setCell ⟨w8.heap.size, my, none⟩ (.bool true)).heap[w8.heap.size]? = some (.cells (bools (g1.set my true)) 4 (0, 0)) := by have h := blk_set HVa.out my (.bool true); rw [bools_set] at h; exact h
                    have HV1 := Lib.hid hv1
                    have HB1 := Lib.hid (HBa.out.setCell (p := ⟨w8.heap.size, my, none⟩) (Nat.le_refl _) (.bool true))
                    have HX1 := Lib.hid (blk_far HXA.out ⟨w8.heap.size, my, none⟩ (.bool true) (by have := HLE.out; show w8.heap.size ≠ X; omega))
                    clear hv1
                    go_upto_region 20 with (fail)
                    clear z0 z1 c0 c1 c2 c3 o0 o1
                    generalize wa.setCell ⟨w8.heap.size, my, none⟩ (.bool true) = wb at *
                    obtain ⟨z0, z1⟩ := cell_of_blk HV1.out i
                    have hgt : (g1.set my true).getD i false = true := set_true_getD g1 my i hgi
                    have hgl : (g1.set my true).length = q.blocks.length := by rw [List.length_set]; exact HGL.out
                    rw [bools_at (show i < (g1.set my true).length by rw [hgl]; exact hil), hgt] at z0
                    obtain ⟨c0, _⟩ := cell_of_blk HX1.out 0
                    obtain ⟨c1, _⟩ := cell_of_blk HX1.out 1
                    obtain ⟨c2, _⟩ := cell_of_blk HX1.out 2
                    obtain ⟨c3, _⟩ := cell_of_blk HX1.out 3
                    have HEND : Hid (AgIn q.blocks g (i + 1) (g1.set my true) ∧ wb.heap[w8.heap.size]? = some (.cells (bools (g1.set my true)) 4 (0, 0)) ∧ Below w8.heap.size w8 wb) := Lib.hid ⟨HST.out, HV1.out, HB1.out⟩
                    clear hgt hgl hgi9
                    clear hgi
                    go_wp2_with fail
                    go_roundw
                    case rel => exact ⟨i + 1, _, by omega, by go_num, HEND.out⟩
                    case measure => simp [intOf]; omega
                  · have hgi9 := hgi
                    replace hty : tdLab q.blocks.length ty := hty
                    replace htn : tdLab q.blocks.length tn := htn
                    obtain ⟨my, rfl⟩ : ∃ my : Nat, ty = my := ⟨ty.toNat, by have := hty.1; omega⟩
                    have hmy : my < q.blocks.length := by have := hty.2; omega
                    have y0 : (0 : Int) ≤ (my : Int) := by omega
                    have y1 : (my : Int) < (q.blocks.length : Int) := by omega
                    obtain ⟨mn, rfl⟩ : ∃ mn : Nat, tn = mn := ⟨tn.toNat, by have := htn.1; omega⟩
                    have hmn : mn < q.blocks.length := by have := htn.2; omega
                    have n0 : (0 : Int) ≤ (mn : Int) := by omega
                    have n1 : (mn : Int) < (q.blocks.length : Int) := by omega
                    have HEQ : Hid (agStep ⟨2, ta, (my : Int), (mn : Int)⟩ i g1 = ((g1.set my true).set mn true)) := Lib.hid (by rw [agStep_true hgi]; simp [agSet])
                    rw [HEQ.out] at HST
                    clear HEQ
                    obtain ⟨o0, o1⟩ := cell_of_blk HVa.out my
                    rw [bools_at (show my < g1.length by rw [HGL.out]; exact hmy)] at o0
                    have hv1 : (wa.setCell ⟨w8.heap.size, my, none⟩ (.bool true)).heap[w8.heap.size]? = some (.cells (bools (g1.set my true)) 4 (0, 0)) := by have h := blk_set HVa.out my (.bool true); rw [bools_set] at h; exact h
                    have HV1 := Lib.hid hv1
                    have HB1 := Lib.hid (HBa.out.setCell (p := ⟨w8.heap.size, my, none⟩) (Nat.le_refl _) (.bool true))
                    have HX1 := Lib.hid (blk_far HXA.out ⟨w8.heap.size, my, none⟩ (.bool true) (by have := HLE.out; show w8.heap.size ≠ X; omega))
                    clear hv1
                    go_upto_region 20 with (fail)
                    clear z0 z1 c0 c1 c2 c3 o0 o1
                    generalize wa.setCell ⟨w8.heap.size, my, none⟩ (.bool true) = wb at *
                    obtain ⟨z0, z1⟩ := cell_of_blk HV1.out i
                    have hgt : (g1.set my true).getD i false = true := set_true_getD g1 my i hgi
                    have hgl : (g1.set my true).length = q.blocks.length := by rw [List.length_set]; exact HGL.out
                    rw [bools_at (show i < (g1.set my true).length by rw [hgl]; exact hil), hgt] at z0
                    obtain ⟨c0, _⟩ := cell_of_blk HX1.out 0
                    obtain ⟨c1, _⟩ := cell_of_blk HX1.out 1
                    obtain ⟨c2, _⟩ := cell_of_blk HX1.out 2
                    obtain ⟨c3, _⟩ := cell_of_blk HX1.out 3
                    obtain ⟨o0, o1⟩ := cell_of_blk HV1.out mn
                    rw [bools_at (show mn < (g1.set my true).length by rw [hgl]; exact hmn)] at o0
                    have HEND : Hid (AgIn q.blocks g (i + 1) ((g1.set my true).set mn true) ∧ (wb.setCell ⟨w8.heap.size, mn, none⟩ (.bool true)).heap[w8.heap.size]? = some (.cells (bools ((g1.set my true).set mn true)) 4 (0, 0)) ∧ Below w8.heap.size w8 (wb.setCell ⟨w8.heap.size, mn, none⟩ (.bool true))) := Lib.hid ⟨HST.out, by have h := blk_set HV1.out mn (.bool true); rw [bools_set] at h; exact h, HB1.out.setCell (p := ⟨w8.heap.size, mn, none⟩) (Nat.le_refl _) (.bool true)⟩
                    clear hgt hgl hgi9
                    clear hgi
                    go_wp2_with fail
                    go_roundw
                    case rel => exact ⟨i + 1, _, by omega, by go_num, HEND.out⟩
                    case measure => simp [intOf]; omega
              · have hgi9 := hgi
                have HEQ : Hid (agStep ⟨3, ta, ty, tn⟩ i g1 = g1) := Lib.hid (by rw [agStep_true hgi]; simp [agSet])
                rw [HEQ.out] at HST
                clear HEQ
                have HV1 := Lib.hid HVa.out
                have HB1 := Lib.hid HBa.out
                have HX1 := Lib.hid HXA.out
                go_upto_region 20 with (fail)
                clear z0 z1 c0 c1 c2 c3
                generalize wa = wb at *
                obtain ⟨z0, z1⟩ := cell_of_blk HV1.out i
                have hgt : g1.getD i false = true := hgi
                have hgl : g1.length = q.blocks.length := by exact HGL.out
                rw [bools_at (show i < g1.length by rw [hgl]; exact hil), hgt] at z0
                obtain ⟨c0, _⟩ := cell_of_blk HX1.out 0
                obtain ⟨c1, _⟩ := cell_of_blk HX1.out 1
                obtain ⟨c2, _⟩ := cell_of_blk HX1.out 2
                obtain ⟨c3, _⟩ := cell_of_blk HX1.out 3
                have HEND : Hid (AgIn q.blocks g (i + 1) g1 ∧ wb.heap[w8.heap.size]? = some (.cells (bools g1) 4 (0, 0)) ∧ Below w8.heap.size w8 wb) := Lib.hid ⟨HST.out, HV1.out, HB1.out⟩
                clear hgt hgl hgi9
                clear hgi
                go_wp2_with fail
                go_roundw
                case rel => exact ⟨i + 1, _, by omega, by go_num, HEND.out⟩
                case measure => simp [intOf]; omega
            · have hgf : g1.getD i false = false := by simpa using hgi
              rw [hgf] at z0
              rw [agStep_none hgf] at HST
              have HEND := Lib.hid (And.intro HST.out (And.intro HVa.out HBa.out))
              clear hgf hgi ht
              go_wp2_with fail
              go_roundw
              case rel => exact ⟨i + 1, _, by omega, by go_num, HEND.out⟩
              case measure => simp [intOf]; omega
          · obtain rfl : i = q.blocks.length := by omega
            have HRD := Lib.hid (HAG.out.round HIN.out)
            go_wp2_with fail
            go_roundw
            case rel => exact ⟨n + 1, g1, by omega, by go_num, HRD.out, HVi.out, HBi.out⟩
            case measure => simp [intOf]; omega
      · obtain rfl : n = q.blocks.length := by omega
        have HALL := Lib.hid (fun i hi => HAG.out.all HRE.out i hi)
        have HGL : Hid (g.length = q.blocks.length) := Lib.hid HAG.out.len
        go_wp2_with fail
        clear y2
        generalize wr = wo at *
        go_loopw [11] (fun vi wr => ∃ (i : Nat), i ≤ q.blocks.length ∧ vi = .int .i64 i ∧ wr.heap[w8.heap.size]? = some (.cells (bools g) 4 (0, 0)) ∧ Below w8.heap.size w8 wr) (fun vi _ => q.blocks.length - (intOf vi).toNat)
        case atStart => exact ⟨0, Nat.zero_le _, rfl, HVr.out, HBr.out⟩
        case round =>
          obtain ⟨i, hi, rfl, hvi, hbi⟩ := hrel
          have HVi := Lib.hid hvi
          have HBi := Lib.hid hbi
          have HY := Lib.hid ((hbi.block _ (lt_of_blk HY8.out)).trans HY8.out)
          have y2 := (ir_cells_at HY.out).2.2.1
          clear hvi hbi
          by_cases hil : i < q.blocks.length
          · have ht := HQOK.out.at_ i hil
            have hfx := HFX.out i hil
            obtain ⟨b, off, rfl, hb0, OA, oc, _, _, _, x1, x2, x3, x4⟩ := blk_at (HQ8.out.2.below HBi.out (Nat.le_refl _)) i hil
            obtain ⟨bk, hbk⟩ : ∃ bk, q.blocks.getD i blkNone = bk := ⟨_, rfl⟩
            rw [hbk] at x1 x2 x3 x4 ht hfx
            obtain ⟨ops, trm⟩ := bk
            obtain ⟨tk, ta, ty, tn⟩ := trm
            simp only at x1 x2 x3 x4 ht hfx
            have k0 : (0 : Int) ≤ (i : Int) := by omega
            have k1 : (i : Int) < (q.blocks.length : Int) := by omega
            have HXA := Lib.hid (heap_alloc_new wr (.cells #[.int .i64 tk, .int .i64 ta, .int .i64 ty, .int .i64 tn] 38))
            have HBA := Lib.hid (bnew wr (.cells #[.int .i64 tk, .int .i64 ta, .int .i64 ty, .int .i64 tn] 38))
            clear hbk
            go_upto_region 26 with (fail)
            clear x1 x2 x3 x4 y2
            have HVa := Lib.hid ((HBA.out.block _ (lt_of_blk HVi.out)).trans HVi.out)
            have HBa := Lib.hid (HBi.out.trans (HBA.out.mono HBi.out.size))
            have HYa := Lib.hid ((HBA.out.block _ (lt_of_blk HY.out)).trans HY.out)
            generalize wr.alloc (.cells #[.int .i64 tk, .int .i64 ta, .int .i64 ty, .int .i64 tn] 38) = wa at *
            generalize wr.heap.size = X at *
            obtain ⟨z0, z1⟩ := cell_of_blk HVa.out i
            rw [bools_at (show i < g.length by rw [HGL.out]; exact hil), HALL.out i hil] at z0
            obtain ⟨c0, _⟩ := cell_of_blk HXA.out 0
            obtain ⟨c1, _⟩ := cell_of_blk HXA.out 1
            obtain ⟨c2, _⟩ := cell_of_blk HXA.out 2
            obtain ⟨c3, _⟩ := cell_of_blk HXA.out 3
            have y2 := (ir_cells_at HYa.out).2.2.1
            have HRP := Lib.hid (HQ8.out.2.below HBa.out (Nat.le_refl _))
            rcases ht with ⟨rfl, hty⟩ | ⟨rfl, hty, htn⟩ | rfl
            · have HFY : Hid (tdFix q.blocks ty) := Lib.hid (by
                by_cases e : ty = -1
                · subst e; exact Or.inl rfl
                · exact hfx ty (by unfold tdTg tdOne; rw [if_pos rfl, if_neg e]; simp))
              clear hfx
              go_wp2_with fail
              refine (HPS.out _ _ _ _ hty HFY.out _ HRP.out).mono ?_
              rintro e wz ⟨rfl, hwz⟩
              have hwz := hwz.symm
              subst hwz
              go_wp2_with fail
              go_roundw
              case rel => exact ⟨i + 1, by omega, by go_num, HVa.out, HBa.out⟩
              case measure => simp [intOf]; omega
            · have HFY : Hid (tdFix q.blocks ty) := Lib.hid (by
                by_cases e : ty = -1
                · subst e; exact Or.inl rfl
                · exact hfx ty (by unfold tdTg tdOne; rw [if_neg (fun h : (2 : Int) = 1 => absurd h (by decide)), if_pos rfl, if_neg e]; simp))
              have HFN : Hid (tdFix q.blocks tn) := Lib.hid (by
                by_cases e : tn = -1
                · subst e; exact Or.inl rfl
                · exact hfx tn (by unfold tdTg tdOne; rw [if_neg (fun h : (2 : Int) = 1 => absurd h (by decide)), if_pos rfl, if_neg e]; simp))
              clear hfx
              go_wp2_with fail
              refine (HPS.out _ _ _ _ hty HFY.out _ HRP.out).mono ?_
              rintro e wz ⟨rfl, hwz⟩
              have hwz := hwz.symm
              subst hwz
              go_wp2_with fail
              refine (HPS.out _ _ _ _ htn HFN.out _ HRP.out).mono ?_
              rintro e wz ⟨rfl, hwz⟩
              have hwz := hwz.symm
              subst hwz
              go_wp2_with fail
              go_roundw
              case rel => exact ⟨i + 1, by omega, by go_num, HVa.out, HBa.out⟩
              case measure => simp [intOf]; omega
            · clear hfx
              go_wp2_with fail
              go_roundw
              case rel => exact ⟨i + 1, by omega, by go_num, HVa.out, HBa.out⟩
              case measure => simp [intOf]; omega
          · obtain rfl : i = q.blocks.length := by omega
            go_wp2_with fail
            refine (HLV.out _).mono ?_
            rintro e w10 ⟨rfl, hb10⟩
            go_wp2_with fail
            go_ret
            exact ⟨rfl, bch (bch HB8.out HBi.out) hb10⟩
set_option maxHeartbeats 8000000 in
theorem walk (p : Ir) (av bv : Value) (v0 : Value) (hv : v0 = irVal p av bv) (hf : p.fine) (w : World) (hI : IrRep w w.heap.size p av bv) :
    Calls Try.prog 4 #[v0] w fun e w' => e = .returned (.bool true) ∧ Below w.heap.size w w' := by
  subst hv
  by_cases he : irErr p = 0
  · obtain ⟨s0, hs0⟩ := tdIn_ex (tdStr p.blocks)
    exact good p av bv hf he s0 hs0 w hI
  · exact bad p av bv hf he w hI

theorem own : ownKnob Try.prog.godebug = none := by kernel_rfl
set_option maxRecDepth 100000 in
theorem lifted (os : Os) (started : os.Started) (H : Type) (enc : TypeId × Value → H) :
    ReturnsInHanded {} Try.checked os 4 .any (Rows.tidyAgainSpec.pre6 enc Try.prog Try.f4 Rows.tidyAgainRow.domain false) (Rows.tidyAgainSpec.post enc Try.prog Try.f4 false true false false) := by
  refine returnsInHanded_of_change_sized (C := Try.checked) own started (by kernel_rfl) Try.func4
    (ChangeSpec.witness6 (enc := enc) (C := Try.checked) false ⟨#[], #[.agg #[.int .i64 0, .slice none 0 0, .slice none 0 0, .int .i64 0, .int .i64 0]], []⟩ 8 (by kernel_rfl) (by kernel_rfl) (by kernel_rfl) (by kernel_rfl)) ?_
  intro W base args ds gs before hval0 hW hcnd hsz _
  have hval : ∀ (j : Nat) t v, Try.f4.params[j]? = some t → args[j]? = some v → Value.okWide Try.prog W .any base t v := hval0
  have hW' := hW
  obtain ⟨p, q, hA0, hV, rfl, hfz, hnd⟩ := hW
  have hA : DataW.TrodAll enc Try.prog W 0 (fun _ => true) true Try.f4.params.toList args.toList ds p := hA0
  rw [Try.params4] at hA hval
  obtain ⟨v0, vs0, d0, ds0, p0, q0, hargs, rfl, rfl, h0, r0⟩ := trodAll_cons hA
  obtain ⟨rfl, rfl, rfl⟩ := trodAll_nil r0
  obtain rfl : args = #[v0] := by cases args; simp_all
  obtain ⟨rfl, rfl⟩ := trodVars_none hV
  clear hA0 hval0
  obtain ⟨p, av, bv, hv, hI, hf⟩ := open_ir (hval 0 25 v0 rfl rfl) h0 (fun x hx => by simpa using hW'.lt x (by simp [hx])) (weights_of hsz 0 rfl rfl)
  refine (walk p av bv v0 hv hf W hI).mono fun e W' ⟨he, hg⟩ => ?_
  subst he
  exact ⟨_, rfl, law_post (by kernel_rfl) (by kernel_rfl) rfl (by kernel_rfl) Try.underlying4 rfl hW' hg⟩

theorem proved : Rows.TidyAgainSaid :=
  OpenClaim.holds_of_wide 4 Try.f4 rfl rfl rfl rfl rfl rfl rfl ⟨rfl, rfl, rfl, rfl, rfl⟩ rfl rfl rfl rfl rfl (by kernel_rfl) Try.func4 (by kernel_rfl)
    (of_decide_eq_true (by kernel_rfl)) (by unfold Func.isWrapper; first | (rw [if_pos (by decide +kernel)]; kernel_rfl) | (rw [if_neg (by decide +kernel)]; exact ⟨rfl, rfl⟩))
    (fun os started H enc _ => lifted os started H enc)
#print axioms proved
end Go.Proofs.Ythkobddggoojlaa.tidyAgain
