/- Parts of a proof. No condition but those that each theorem names. -/
import Derived.WalkKit
import Derived.OpenShut
import Derived.Below
import Derived.Lib.Hide
import Derived.Laws.OwnMore
import Derived.Deep.QuietTactic
import Derived.Deep.AppendLies
import Derived.ProofKit
import Derived.SizedLaws
import Derived.Test.YtfadeipdepamlaaProg
import Derived.Handy
import Derived.Deep.RegionHeld3
import Derived.BigQuiet
import Derived.Maps.AppendAt
import Derived.Maps.RangeWalk
import Derived.Maps.OwnSet
import Derived.StillTailTactics
import Derived.Laws.CopyOwn
import Derived.Lib.BufferWrite
import Derived.OrdersHeld
import Derived.RegionTactic
import Derived.Deep.DeepCutAuto
import Derived.Test.YtfadeipdepamlaaSdG0e0
import Derived.Test.YtfadeipdepamlaaSdG0e1
import Derived.Test.YtfadeipdepamlaaSdIr
import Derived.Test.YtfadeipdepamlaaSdG1e2
import Derived.Test.YtfadeipdepamlaaSdG1e4
import Derived.Test.YtfadeipdepamlaaSdIrC
import Derived.Test.YtfadeipdepamlaaSdG2e5
import Derived.Test.YtfadeipdepamlaaSdG2e6
import Derived.Test.YtfadeipdepamlaaSdG1e8
import Derived.Test.YtfadeipdepamlaaSdG1e9
import Derived.Test.YtfadeipdepamlaaSdG0e11
import Derived.Test.YtfadeipdepamlaaSdG2e13
import Derived.Test.YtfadeipdepamlaaSdCopB
import Derived.Test.YtfadeipdepamlaaSdG3e14
import Derived.Test.YtfadeipdepamlaaSdRefU
import Derived.Test.YtfadeipdepamlaaSdFoldM
import Derived.Test.YtfadeipdepamlaaSdG4e14
import Derived.Test.YtfadeipdepamlaaSdFtA
import Derived.Test.YtfadeipdepamlaaSdG1be9
import Derived.Test.YtfadeipdepamlaaSdFoldA
import Derived.Test.YtfadeipdepamlaaSdG5e17
namespace Go.Proofs.Ytfadeipdepamlaa
open Go.RowKit
set_option linter.unusedVariables false
theorem ft_leaf_k_0 (f : Int → Option Int) (k d a b cc i : Int) (t0 : k ≠ 3) (t1 : k ≠ 4) (t2 : k ≠ 5) (t3 : k ≠ 7) (t4 : k ≠ 8) (t5 : k ≠ 9) (t6 : k ≠ 11) (t7 : k ≠ 12) (t8 : k ≠ 13) (t9 : k ≠ 14) (t10 : k ≠ 15) (t11 : k ≠ 17) (t12 : a = b) : ftTail f ⟨k, d, a, b, cc, i⟩ = ⟨k, d, a, b, cc, i⟩ := by
  unfold ftTail fdOne fdBeside fdSame fdNum
  simp_all
theorem ft_leaf_k_1 (f : Int → Option Int) (k d a b cc i : Int) (t0 : k ≠ 3) (t1 : k ≠ 4) (t2 : k ≠ 5) (t3 : k ≠ 7) (t4 : k ≠ 8) (t5 : k ≠ 9) (t6 : k ≠ 11) (t7 : k ≠ 12) (t8 : k ≠ 13) (t9 : k ≠ 14) (t10 : k ≠ 15) (t11 : k ≠ 17) (t12 : ¬ a = b) : ftTail f ⟨k, d, a, b, cc, i⟩ = ⟨k, d, a, b, cc, i⟩ := by
  unfold ftTail fdOne fdBeside fdSame fdNum
  simp_all
theorem ft_leaf_k_2 (f : Int → Option Int) (k d a b cc i : Int) (t0 : k ≠ 3) (t1 : k ≠ 4) (t2 : k ≠ 5) (t3 : k ≠ 7) (t4 : k ≠ 8) (t5 : k ≠ 9) (t6 : k ≠ 11) (t7 : k ≠ 12) (t8 : k ≠ 13) (t9 : k ≠ 14) (t10 : k ≠ 15) (t11 : k ≠ 17) (t12 : a = b) : ftTail f ⟨k, d, a, b, cc, i⟩ = ⟨k, d, a, b, cc, i⟩ := by
  unfold ftTail fdOne fdBeside fdSame fdNum
  simp_all
theorem ft_leaf_k_3 (f : Int → Option Int) (k d a b cc i : Int) (t0 : k ≠ 3) (t1 : k ≠ 4) (t2 : k ≠ 5) (t3 : k ≠ 7) (t4 : k ≠ 8) (t5 : k ≠ 9) (t6 : k ≠ 11) (t7 : k ≠ 12) (t8 : k ≠ 13) (t9 : k ≠ 14) (t10 : k ≠ 15) (t11 : k ≠ 17) (t12 : ¬ a = b) : ftTail f ⟨k, d, a, b, cc, i⟩ = ⟨k, d, a, b, cc, i⟩ := by
  unfold ftTail fdOne fdBeside fdSame fdNum
  simp_all
theorem ft_leaf_k_4 (f : Int → Option Int) (k d a b cc i : Int) (t0 : k ≠ 3) (t1 : k ≠ 4) (t2 : k ≠ 5) (t3 : k ≠ 7) (t4 : k ≠ 8) (t5 : k ≠ 9) (t6 : k ≠ 11) (t7 : k ≠ 12) (t8 : k ≠ 13) (t9 : k ≠ 14) (t10 : k ≠ 15) (t11 : k ≠ 17) (t12 : a = b) : ftTail f ⟨k, d, a, b, cc, i⟩ = ⟨k, d, a, b, cc, i⟩ := by
  unfold ftTail fdOne fdBeside fdSame fdNum
  simp_all
theorem ft_leaf_k_5 (f : Int → Option Int) (k d a b cc i : Int) (t0 : k ≠ 3) (t1 : k ≠ 4) (t2 : k ≠ 5) (t3 : k ≠ 7) (t4 : k ≠ 8) (t5 : k ≠ 9) (t6 : k ≠ 11) (t7 : k ≠ 12) (t8 : k ≠ 13) (t9 : k ≠ 14) (t10 : k ≠ 15) (t11 : k ≠ 17) (t12 : ¬ a = b) : ftTail f ⟨k, d, a, b, cc, i⟩ = ⟨k, d, a, b, cc, i⟩ := by
  unfold ftTail fdOne fdBeside fdSame fdNum
  simp_all
set_option maxRecDepth 100000 in
set_option maxHeartbeats 16000000 in
theorem ref19_op_rest (l : List Opn) (f : Int → Option Int) (hl : FtOf l f) (A : Option Addr) (c : Nat) (k d a b cc i : Int) (hn : l.length ≤ 2000000) (q3 : (k == 3) = false) (q4 : (k == 4) = false) (q5 : (k == 5) = false) (q7 : (k == 7) = false) (q8 : (k == 8) = false) (q9 : (k == 9) = false) (q11 : (k == 11) = false) (q12 : (k == 12) = false) (q13 : (k == 13) = false) (q14 : (k == 14) = false) (q15 : (k == 15) = false) (q17 : (k == 17) = false) (n3 : k ≠ 3) (n4 : k ≠ 4) (n5 : k ≠ 5) (n7 : k ≠ 7) (n8 : k ≠ 8) (n9 : k ≠ 9) (n11 : k ≠ 11) (n12 : k ≠ 12) (n13 : k ≠ 13) (n14 : k ≠ 14) (n15 : k ≠ 15) (n17 : k ≠ 17) (hr : fdReck f ⟨k, d, a, b, cc, i⟩ = none) (w : World) (h : SlRep opEnc w w.heap.size (.slice A l.length c) l) :
    Calls Try.prog 20 #[.slice A l.length c, .agg #[.int .i64 k, .int .i64 d, .int .i64 a, .int .i64 b, .int .i64 cc, .int .i64 i]] w (CopPost (fdOp f ⟨k, d, a, b, cc, i⟩) w) := by
  have N3 := Lib.hid n3
  have N4 := Lib.hid n4
  have N5 := Lib.hid n5
  have N7 := Lib.hid n7
  have N8 := Lib.hid n8
  have N9 := Lib.hid n9
  have N11 := Lib.hid n11
  have N12 := Lib.hid n12
  have N13 := Lib.hid n13
  have N14 := Lib.hid n14
  have N15 := Lib.hid n15
  have N17 := Lib.hid n17
  clear n3 n4 n5 n7 n8 n9 n11 n12 n13 n14 n15 n17
  have HU := Lib.hid (fun W => ref_Uses ⟨k, d, a, b, cc, i⟩ W)
  have HVL := Lib.hid (fun x y z W => ref17_Value ⟨k, d, a, b, cc, i⟩ x y z W)
  have HKN := Lib.hid (fun t W h => ref19_known l A c t hn W h)
  have HIS := Lib.hid (fun t m W h => ref19_is l f hl A c t m hn W h)
  have HTO := Lib.hid (fun t W h => ref19_to l f hl A c ⟨k, d, a, b, cc, i⟩ t hn W h)
  have HFL : Hid (∀ t, ftKn l t = f t) := Lib.hid hl
  have HSR := Lib.hid (fun v all (h : FtSrc f (srcsOf ⟨k, d, a, b, cc, i⟩) (fSrc k) v all) => h.reck)
  have HSL := Lib.hid (srcs_len ⟨k, d, a, b, cc, i⟩)
  have hns := fSrc_le k
  have HL0 := Lib.hid h
  have HNR := Lib.hid hr
  generalize hPO : CopPost (fdOp f ⟨k, d, a, b, cc, i⟩) w = PO
  have HPO := Lib.hid hPO
  unfold CopPost opVal at HTO
  unfold opVal at HVL
  simp only at HU HVL HTO HSR HSL
  generalize srcsOf ⟨k, d, a, b, cc, i⟩ = sl at *
  generalize fSrc k = ns at *
  have e1 := alloc_size w (.cells #[.int .i64 k, .int .i64 d, .int .i64 a, .int .i64 b, .int .i64 cc, .int .i64 i] 41) rfl
  have hX := alloc_old (alloc_last w _ rfl (.cells #[.int .i64 k, .int .i64 d, .int .i64 a, .int .i64 b, .int .i64 cc, .int .i64 i] 41)) (.cells #[.int .i64 0, .int .i64 0, .int .i64 0, .int .i64 0, .int .i64 0, .int .i64 0] 41)
  have hR := alloc_last _ _ e1 (.cells #[.int .i64 0, .int .i64 0, .int .i64 0, .int .i64 0, .int .i64 0, .int .i64 0] 41)
  have hB := bal (bnew w (.cells #[.int .i64 k, .int .i64 d, .int .i64 a, .int .i64 b, .int .i64 cc, .int .i64 i] 41)) (.cells #[.int .i64 0, .int .i64 0, .int .i64 0, .int .i64 0, .int .i64 0, .int .i64 0] 41)
  clear h hl hr hPO
  go_enter Try.func20, Try.ntmps20
  go_upto_region 1 with (fail)
  generalize (w.alloc (.cells #[.int .i64 k, .int .i64 d, .int .i64 a, .int .i64 b, .int .i64 cc, .int .i64 i] 41)).alloc (.cells #[.int .i64 0, .int .i64 0, .int .i64 0, .int .i64 0, .int .i64 0, .int .i64 0] 41) = w1 at *
  have HX := Lib.hid hX
  have HR := Lib.hid hR
  have HB := Lib.hid hB
  clear hX hR hB e1
  obtain ⟨c0, c1, c2, c3, c4, c5, _, _, _, _⟩ := op_cells_at HX.out
  go_wp2_with fail
  refine (HU.out _).mono ?_
  rintro e w2 ⟨UA, uc, rfl, hb, hu⟩
  have HU2 := Lib.hid (slRep_intsF HSL.out (Nat.le_refl _) hu)
  have HX2 := Lib.hid ((hb.block _ (lt_of_blk HX.out)).trans HX.out)
  have HR2 := Lib.hid ((hb.block _ (lt_of_blk HR.out)).trans HR.out)
  have HB2 := Lib.hid (bch HB.out hb)
  have HZ2 : Hid (w.heap.size + 2 ≤ w2.heap.size) := Lib.hid (by have h1 := lt_of_blk HR2.out; omega)
  clear hb hu c0 c1 c2 c3 c4 c5 HX HR HB
  go_upto_region 3 with (fail)
  have HV3 : Hid ((w2.alloc (.cells #[.int .i64 0, .int .i64 0, .int .i64 0] 74)).heap[w2.heap.size]? = some (.cells (arr3 (fun _ => 0)) 74 (0, 0))) := Lib.hid (heap_alloc_new w2 (.cells #[.int .i64 0, .int .i64 0, .int .i64 0] 74))
  have HB3 := Lib.hid (bnew w2 (.cells #[.int .i64 0, .int .i64 0, .int .i64 0] 74))
  generalize w2.alloc (.cells #[.int .i64 0, .int .i64 0, .int .i64 0] 74) = w3 at *
  go_wp2_with fail
  go_loopw [7, 8] (fun va vi wr => ∃ (m : Nat) (v : Nat → Int) (all : Bool), m ≤ ns ∧ vi = .int .i64 m ∧ va = .bool all ∧ Below w2.heap.size w2 wr ∧ wr.heap[w2.heap.size]? = some (.cells (arr3 v) 74 (0, 0)) ∧ Hid (FtSrc f sl m v all)) (fun _ vi _ => ns - (intOf vi).toNat)
  case atStart => exact ⟨0, _, true, Nat.zero_le _, rfl, rfl, HB3.out, HV3.out, Lib.hid (FtSrc.start f sl)⟩
  case round =>
    obtain ⟨m, v, all, hm, rfl, rfl, hb, hv, HFS⟩ := hrel
    have HBW := Lib.hid hb
    have HV := Lib.hid hv
    have HB := Lib.hid (HB2.out.trans (hb.mono HB2.out.size))
    have HL := Lib.hid ((HL0.out.below HB.out (Nat.le_refl _)).keep HB.out.size (fun _ _ => rfl))
    clear hb hv
    by_cases hlt : m < ns
    · have hm3 : m < 3 := by omega
      obtain ⟨ub, uoff, rfl, hub, u0⟩ := int_atF HSL.out (HU2.out.below HBW.out (Nat.le_refl _)) m hlt
      have HST := Lib.hid (fun x hx n hn => HFS.out.step (m := m) x hx n hn)
      have HKT := Lib.hid (fun W h => HKN.out (sl.getD m 0) W h)
      have HFT := Lib.hid (HFL.out (sl.getD m 0))
      generalize sl.getD m 0 = t at *
      rw [HFT.out] at HKT
      have m0 : (0 : Int) ≤ (m : Int) := by omega
      have m1 : (m : Int) < (ns : Int) := by omega
      have m2 : (m : Int) < 3 := by omega
      go_wp2_with fail
      refine (HKT.out _ HL.out).mono ?_
      rintro e w4 ⟨⟨n, rfl, hn4⟩, hb4⟩
      have HST2 := Lib.hid (HST.out (f t) rfl n hn4)
      have HV4 := Lib.hid ((hb4.block _ (lt_of_blk HV.out)).trans HV.out)
      have hsz := HBW.out.size
      have HB4 := Lib.hid (HBW.out.trans (hb4.mono hsz))
      have z0 := (cell_of_blk HV4.out m).1
      rw [arr3_at v m hm3] at z0
      have z1 := (cell_of_blk HV4.out m).2
      have HV5 := Lib.hid (blk_set HV4.out m (.int .i64 n))
      rw [arr3_set v m hm3 n] at HV5
      have HB5 := Lib.hid (HB4.out.setCell (p := ⟨w2.heap.size, m, none⟩) (Nat.le_refl _) (.int .i64 n))
      clear hn4 hb4 hsz HST HKT HFT
      generalize (f t).isSome = ok at *
      cases all with
      | true =>
        go_wp2_with fail
        go_roundw
        case rel => exact ⟨m + 1, _, _, by omega, by go_num, rfl, HB5.out, HV5.out, Lib.hid HST2.out⟩
        case measure => simp [intOf]; omega
      | false =>
        go_wp2_with fail
        go_roundw
        case rel => exact ⟨m + 1, _, _, by omega, by go_num, rfl, HB5.out, HV5.out, Lib.hid HST2.out⟩
        case measure => simp [intOf]; omega
    · obtain rfl : m = ns := by omega
      have hrk := HSR.out v all HFS.out
      have HX := Lib.hid ((HBW.out.block _ (lt_of_blk HX2.out)).trans HX2.out)
      have HR := Lib.hid ((HBW.out.block _ (lt_of_blk HR2.out)).trans HR2.out)
      have HZS : Hid (w.heap.size + 2 ≤ wr.heap.size) := Lib.hid (by have h1 := HBW.out.size; have h2 := HZ2.out; omega)
      obtain ⟨c0, c1, c2, c3, c4, c5, _, _, _, _⟩ := op_cells_at HX.out
      have z0 : wr.cell? ⟨w2.heap.size, 0, none⟩ = some (.int .i64 (v 0)) := (cell_of_blk HV.out 0).1
      have z1 : wr.cell? ⟨w2.heap.size, 1, none⟩ = some (.int .i64 (v 1)) := (cell_of_blk HV.out 1).1
      have z2 : wr.cell? ⟨w2.heap.size, 2, none⟩ = some (.int .i64 (v 2)) := (cell_of_blk HV.out 2).1
      clear HSR HKN HU HV3 HB3 HU2 HX2 HR2 HB2 HBW HV HSL HFL hlt hns hm HFS
      replace HVL := Lib.hid (HVL.out (v 0) (v 1) (v 2))
      generalize v 0 = v0 at *
      generalize v 1 = v1 at *
      generalize v 2 = v2 at *
      rw [HNR.out] at hrk
      cases hvp : valP ⟨k, d, a, b, cc, i⟩ v0 v1 v2 with
      | none =>
        rw [hvp] at HVL
        unfold ValPost optVal at HVL
        clear hrk hvp
        cases all with
        | true =>
          go_wp2_with fail
          refine (HVL.out _).mono ?_
          rintro e w5 ⟨rfl, hb5⟩
          replace HX := Lib.hid ((hb5.block _ (lt_of_blk HX.out)).trans HX.out)
          replace HR := Lib.hid ((hb5.block _ (lt_of_blk HR.out)).trans HR.out)
          replace HB := Lib.hid (bch HB.out hb5)
          replace HL := Lib.hid (HL.out.next hb5)
          replace HZS : Hid (w.heap.size + 2 ≤ w5.heap.size) := Lib.hid (by have h1 := HZS.out; have h2 := hb5.size; omega)
          clear hb5 c0 c1 c2 c3 c4 c5 z0 z1 z2
          obtain ⟨c0, c1, c2, c3, c4, c5, _, _, _, _⟩ := op_cells_at HX.out
          go_upto_region 14 with (fail)
          clear c0 c1 c2 c3 c4 c5
          have HZ := Lib.hid (heap_alloc_new w5 (.cells #[.int .i64 1, .int .i64 d, .int .i64 0, .int .i64 0, .int .i64 0, .int .i64 0] 41))
          have hbz := bnew w5 (.cells #[.int .i64 1, .int .i64 d, .int .i64 0, .int .i64 0, .int .i64 0, .int .i64 0] 41)
          replace HX := Lib.hid ((hbz.block _ (lt_of_blk HX.out)).trans HX.out)
          replace HR := Lib.hid ((hbz.block _ (lt_of_blk HR.out)).trans HR.out)
          replace HB := Lib.hid (bch HB.out hbz)
          replace HL := Lib.hid (HL.out.next hbz)
          clear hbz
          generalize w5.alloc (.cells #[.int .i64 1, .int .i64 d, .int .i64 0, .int .i64 0, .int .i64 0, .int .i64 0] 41) = w6 at *
          generalize w5.heap.size = Z at *
          obtain ⟨c0, c1, c2, c3, c4, c5, _, _, _, _⟩ := op_cells_at HX.out
          go_quiet (fail)
          clear c0 c1 c2 c3 c4 c5
          have hbz := bdrawn (Below.refl w6.heap.size w6) nq
          replace HX := Lib.hid ((hbz.block _ (lt_of_blk HX.out)).trans HX.out)
          replace HR := Lib.hid ((hbz.block _ (lt_of_blk HR.out)).trans HR.out)
          replace HZ := Lib.hid ((hbz.block _ (lt_of_blk HZ.out)).trans HZ.out)
          replace HB := Lib.hid (bch HB.out hbz)
          replace HL := Lib.hid (HL.out.next hbz)
          clear hbz
          generalize w6.drewN nq = w7 at *
          obtain ⟨c0, c1, c2, c3, c4, c5, _, _, _, _⟩ := op_cells_at HX.out
          by_cases hs : a = b
          · have qs : (a == b) = true := by rw [beq_iff_eq]; exact hs
            have HF1 := Lib.hid hs
            clear hs
            have HOE : Hid (fdOp f ⟨k, d, a, b, cc, i⟩ = ⟨k, d, a, b, cc, i⟩) := Lib.hid (by rw [ft_op_none HNR.out]; exact ft_leaf_k_0 f k d a b cc i N3.out N4.out N5.out N7.out N8.out N9.out N11.out N12.out N13.out N14.out N15.out N17.out HF1.out)
            obtain ⟨r0, s0⟩ := cell_of_blk HR.out 0
            obtain ⟨r1, s1⟩ := cell_of_blk HR.out 1
            obtain ⟨r2, s2⟩ := cell_of_blk HR.out 2
            obtain ⟨r3, s3⟩ := cell_of_blk HR.out 3
            obtain ⟨r4, s4⟩ := cell_of_blk HR.out 4
            obtain ⟨r5, s5⟩ := cell_of_blk HR.out 5
            go_wp2_with fail
            clear c0 c1 c2 c3 c4 c5
            have hr7 := (blk_set (blk_set (blk_set (blk_set (blk_set (blk_set HR.out 0 (.int .i64 k)) 1 (.int .i64 d)) 2 (.int .i64 a)) 3 (.int .i64 b)) 4 (.int .i64 cc)) 5 (.int .i64 i))
            have hB7 := ((((((HB.out.setCell (p := ⟨w.heap.size + 1, 0, none⟩) (by show w.heap.size ≤ w.heap.size + 1; omega) (.int .i64 k)).setCell (p := ⟨w.heap.size + 1, 1, none⟩) (by show w.heap.size ≤ w.heap.size + 1; omega) (.int .i64 d)).setCell (p := ⟨w.heap.size + 1, 2, none⟩) (by show w.heap.size ≤ w.heap.size + 1; omega) (.int .i64 a)).setCell (p := ⟨w.heap.size + 1, 3, none⟩) (by show w.heap.size ≤ w.heap.size + 1; omega) (.int .i64 b)).setCell (p := ⟨w.heap.size + 1, 4, none⟩) (by show w.heap.size ≤ w.heap.size + 1; omega) (.int .i64 cc)).setCell (p := ⟨w.heap.size + 1, 5, none⟩) (by show w.heap.size ≤ w.heap.size + 1; omega) (.int .i64 i))
            generalize (((((w7.setCell ⟨w.heap.size + 1, 0, none⟩ (.int .i64 k)).setCell ⟨w.heap.size + 1, 1, none⟩ (.int .i64 d)).setCell ⟨w.heap.size + 1, 2, none⟩ (.int .i64 a)).setCell ⟨w.heap.size + 1, 3, none⟩ (.int .i64 b)).setCell ⟨w.heap.size + 1, 4, none⟩ (.int .i64 cc)).setCell ⟨w.heap.size + 1, 5, none⟩ (.int .i64 i) = w7 at *
            have k0 : w7.cell? ⟨w.heap.size + 1, 0, none⟩ = some (.int .i64 k) := (cell_of_blk hr7 0).1
            have k1 : w7.cell? ⟨w.heap.size + 1, 1, none⟩ = some (.int .i64 d) := (cell_of_blk hr7 1).1
            have k2 : w7.cell? ⟨w.heap.size + 1, 2, none⟩ = some (.int .i64 a) := (cell_of_blk hr7 2).1
            have k3 : w7.cell? ⟨w.heap.size + 1, 3, none⟩ = some (.int .i64 b) := (cell_of_blk hr7 3).1
            have k4 : w7.cell? ⟨w.heap.size + 1, 4, none⟩ = some (.int .i64 cc) := (cell_of_blk hr7 4).1
            have k5 : w7.cell? ⟨w.heap.size + 1, 5, none⟩ = some (.int .i64 i) := (cell_of_blk hr7 5).1
            clear hr7 r0 r1 r2 r3 r4 r5 s0 s1 s2 s3 s4 s5
            refine bodyPost_ret (v := .agg #[.int .i64 k, .int .i64 d, .int .i64 a, .int .i64 b, .int .i64 cc, .int .i64 i]) (by simp [results, Try.results20, go_sem, k0, k1, k2, k3, k4, k5]; try rfl) rfl ?_
            rw [← HPO.out]; exact ⟨by rw [HOE.out]; rfl, hB7⟩
          · have qs : (a == b) = false := by rw [beq_eq_false_iff_ne]; exact hs
            have HF1 := Lib.hid hs
            clear hs
            have HOE : Hid (fdOp f ⟨k, d, a, b, cc, i⟩ = ⟨k, d, a, b, cc, i⟩) := Lib.hid (by rw [ft_op_none HNR.out]; exact ft_leaf_k_1 f k d a b cc i N3.out N4.out N5.out N7.out N8.out N9.out N11.out N12.out N13.out N14.out N15.out N17.out HF1.out)
            obtain ⟨r0, s0⟩ := cell_of_blk HR.out 0
            obtain ⟨r1, s1⟩ := cell_of_blk HR.out 1
            obtain ⟨r2, s2⟩ := cell_of_blk HR.out 2
            obtain ⟨r3, s3⟩ := cell_of_blk HR.out 3
            obtain ⟨r4, s4⟩ := cell_of_blk HR.out 4
            obtain ⟨r5, s5⟩ := cell_of_blk HR.out 5
            go_wp2_with fail
            clear c0 c1 c2 c3 c4 c5
            have hr7 := (blk_set (blk_set (blk_set (blk_set (blk_set (blk_set HR.out 0 (.int .i64 k)) 1 (.int .i64 d)) 2 (.int .i64 a)) 3 (.int .i64 b)) 4 (.int .i64 cc)) 5 (.int .i64 i))
            have hB7 := ((((((HB.out.setCell (p := ⟨w.heap.size + 1, 0, none⟩) (by show w.heap.size ≤ w.heap.size + 1; omega) (.int .i64 k)).setCell (p := ⟨w.heap.size + 1, 1, none⟩) (by show w.heap.size ≤ w.heap.size + 1; omega) (.int .i64 d)).setCell (p := ⟨w.heap.size + 1, 2, none⟩) (by show w.heap.size ≤ w.heap.size + 1; omega) (.int .i64 a)).setCell (p := ⟨w.heap.size + 1, 3, none⟩) (by show w.heap.size ≤ w.heap.size + 1; omega) (.int .i64 b)).setCell (p := ⟨w.heap.size + 1, 4, none⟩) (by show w.heap.size ≤ w.heap.size + 1; omega) (.int .i64 cc)).setCell (p := ⟨w.heap.size + 1, 5, none⟩) (by show w.heap.size ≤ w.heap.size + 1; omega) (.int .i64 i))
            generalize (((((w7.setCell ⟨w.heap.size + 1, 0, none⟩ (.int .i64 k)).setCell ⟨w.heap.size + 1, 1, none⟩ (.int .i64 d)).setCell ⟨w.heap.size + 1, 2, none⟩ (.int .i64 a)).setCell ⟨w.heap.size + 1, 3, none⟩ (.int .i64 b)).setCell ⟨w.heap.size + 1, 4, none⟩ (.int .i64 cc)).setCell ⟨w.heap.size + 1, 5, none⟩ (.int .i64 i) = w7 at *
            have k0 : w7.cell? ⟨w.heap.size + 1, 0, none⟩ = some (.int .i64 k) := (cell_of_blk hr7 0).1
            have k1 : w7.cell? ⟨w.heap.size + 1, 1, none⟩ = some (.int .i64 d) := (cell_of_blk hr7 1).1
            have k2 : w7.cell? ⟨w.heap.size + 1, 2, none⟩ = some (.int .i64 a) := (cell_of_blk hr7 2).1
            have k3 : w7.cell? ⟨w.heap.size + 1, 3, none⟩ = some (.int .i64 b) := (cell_of_blk hr7 3).1
            have k4 : w7.cell? ⟨w.heap.size + 1, 4, none⟩ = some (.int .i64 cc) := (cell_of_blk hr7 4).1
            have k5 : w7.cell? ⟨w.heap.size + 1, 5, none⟩ = some (.int .i64 i) := (cell_of_blk hr7 5).1
            clear hr7 r0 r1 r2 r3 r4 r5 s0 s1 s2 s3 s4 s5
            refine bodyPost_ret (v := .agg #[.int .i64 k, .int .i64 d, .int .i64 a, .int .i64 b, .int .i64 cc, .int .i64 i]) (by simp [results, Try.results20, go_sem, k0, k1, k2, k3, k4, k5]; try rfl) rfl ?_
            rw [← HPO.out]; exact ⟨by rw [HOE.out]; rfl, hB7⟩
        | false =>
          go_wp2_with fail
          refine (HVL.out _).mono ?_
          rintro e w5 ⟨rfl, hb5⟩
          replace HX := Lib.hid ((hb5.block _ (lt_of_blk HX.out)).trans HX.out)
          replace HR := Lib.hid ((hb5.block _ (lt_of_blk HR.out)).trans HR.out)
          replace HB := Lib.hid (bch HB.out hb5)
          replace HL := Lib.hid (HL.out.next hb5)
          replace HZS : Hid (w.heap.size + 2 ≤ w5.heap.size) := Lib.hid (by have h1 := HZS.out; have h2 := hb5.size; omega)
          clear hb5 c0 c1 c2 c3 c4 c5 z0 z1 z2
          obtain ⟨c0, c1, c2, c3, c4, c5, _, _, _, _⟩ := op_cells_at HX.out
          go_upto_region 14 with (fail)
          clear c0 c1 c2 c3 c4 c5
          have HZ := Lib.hid (heap_alloc_new w5 (.cells #[.int .i64 1, .int .i64 d, .int .i64 0, .int .i64 0, .int .i64 0, .int .i64 0] 41))
          have hbz := bnew w5 (.cells #[.int .i64 1, .int .i64 d, .int .i64 0, .int .i64 0, .int .i64 0, .int .i64 0] 41)
          replace HX := Lib.hid ((hbz.block _ (lt_of_blk HX.out)).trans HX.out)
          replace HR := Lib.hid ((hbz.block _ (lt_of_blk HR.out)).trans HR.out)
          replace HB := Lib.hid (bch HB.out hbz)
          replace HL := Lib.hid (HL.out.next hbz)
          clear hbz
          generalize w5.alloc (.cells #[.int .i64 1, .int .i64 d, .int .i64 0, .int .i64 0, .int .i64 0, .int .i64 0] 41) = w6 at *
          generalize w5.heap.size = Z at *
          obtain ⟨c0, c1, c2, c3, c4, c5, _, _, _, _⟩ := op_cells_at HX.out
          go_quiet (fail)
          clear c0 c1 c2 c3 c4 c5
          have hbz := bdrawn (Below.refl w6.heap.size w6) nq
          replace HX := Lib.hid ((hbz.block _ (lt_of_blk HX.out)).trans HX.out)
          replace HR := Lib.hid ((hbz.block _ (lt_of_blk HR.out)).trans HR.out)
          replace HZ := Lib.hid ((hbz.block _ (lt_of_blk HZ.out)).trans HZ.out)
          replace HB := Lib.hid (bch HB.out hbz)
          replace HL := Lib.hid (HL.out.next hbz)
          clear hbz
          generalize w6.drewN nq = w7 at *
          obtain ⟨c0, c1, c2, c3, c4, c5, _, _, _, _⟩ := op_cells_at HX.out
          by_cases hs : a = b
          · have qs : (a == b) = true := by rw [beq_iff_eq]; exact hs
            have HF1 := Lib.hid hs
            clear hs
            have HOE : Hid (fdOp f ⟨k, d, a, b, cc, i⟩ = ⟨k, d, a, b, cc, i⟩) := Lib.hid (by rw [ft_op_none HNR.out]; exact ft_leaf_k_2 f k d a b cc i N3.out N4.out N5.out N7.out N8.out N9.out N11.out N12.out N13.out N14.out N15.out N17.out HF1.out)
            obtain ⟨r0, s0⟩ := cell_of_blk HR.out 0
            obtain ⟨r1, s1⟩ := cell_of_blk HR.out 1
            obtain ⟨r2, s2⟩ := cell_of_blk HR.out 2
            obtain ⟨r3, s3⟩ := cell_of_blk HR.out 3
            obtain ⟨r4, s4⟩ := cell_of_blk HR.out 4
            obtain ⟨r5, s5⟩ := cell_of_blk HR.out 5
            go_wp2_with fail
            clear c0 c1 c2 c3 c4 c5
            have hr7 := (blk_set (blk_set (blk_set (blk_set (blk_set (blk_set HR.out 0 (.int .i64 k)) 1 (.int .i64 d)) 2 (.int .i64 a)) 3 (.int .i64 b)) 4 (.int .i64 cc)) 5 (.int .i64 i))
            have hB7 := ((((((HB.out.setCell (p := ⟨w.heap.size + 1, 0, none⟩) (by show w.heap.size ≤ w.heap.size + 1; omega) (.int .i64 k)).setCell (p := ⟨w.heap.size + 1, 1, none⟩) (by show w.heap.size ≤ w.heap.size + 1; omega) (.int .i64 d)).setCell (p := ⟨w.heap.size + 1, 2, none⟩) (by show w.heap.size ≤ w.heap.size + 1; omega) (.int .i64 a)).setCell (p := ⟨w.heap.size + 1, 3, none⟩) (by show w.heap.size ≤ w.heap.size + 1; omega) (.int .i64 b)).setCell (p := ⟨w.heap.size + 1, 4, none⟩) (by show w.heap.size ≤ w.heap.size + 1; omega) (.int .i64 cc)).setCell (p := ⟨w.heap.size + 1, 5, none⟩) (by show w.heap.size ≤ w.heap.size + 1; omega) (.int .i64 i))
            generalize (((((w7.setCell ⟨w.heap.size + 1, 0, none⟩ (.int .i64 k)).setCell ⟨w.heap.size + 1, 1, none⟩ (.int .i64 d)).setCell ⟨w.heap.size + 1, 2, none⟩ (.int .i64 a)).setCell ⟨w.heap.size + 1, 3, none⟩ (.int .i64 b)).setCell ⟨w.heap.size + 1, 4, none⟩ (.int .i64 cc)).setCell ⟨w.heap.size + 1, 5, none⟩ (.int .i64 i) = w7 at *
            have k0 : w7.cell? ⟨w.heap.size + 1, 0, none⟩ = some (.int .i64 k) := (cell_of_blk hr7 0).1
            have k1 : w7.cell? ⟨w.heap.size + 1, 1, none⟩ = some (.int .i64 d) := (cell_of_blk hr7 1).1
            have k2 : w7.cell? ⟨w.heap.size + 1, 2, none⟩ = some (.int .i64 a) := (cell_of_blk hr7 2).1
            have k3 : w7.cell? ⟨w.heap.size + 1, 3, none⟩ = some (.int .i64 b) := (cell_of_blk hr7 3).1
            have k4 : w7.cell? ⟨w.heap.size + 1, 4, none⟩ = some (.int .i64 cc) := (cell_of_blk hr7 4).1
            have k5 : w7.cell? ⟨w.heap.size + 1, 5, none⟩ = some (.int .i64 i) := (cell_of_blk hr7 5).1
            clear hr7 r0 r1 r2 r3 r4 r5 s0 s1 s2 s3 s4 s5
            refine bodyPost_ret (v := .agg #[.int .i64 k, .int .i64 d, .int .i64 a, .int .i64 b, .int .i64 cc, .int .i64 i]) (by simp [results, Try.results20, go_sem, k0, k1, k2, k3, k4, k5]; try rfl) rfl ?_
            rw [← HPO.out]; exact ⟨by rw [HOE.out]; rfl, hB7⟩
          · have qs : (a == b) = false := by rw [beq_eq_false_iff_ne]; exact hs
            have HF1 := Lib.hid hs
            clear hs
            have HOE : Hid (fdOp f ⟨k, d, a, b, cc, i⟩ = ⟨k, d, a, b, cc, i⟩) := Lib.hid (by rw [ft_op_none HNR.out]; exact ft_leaf_k_3 f k d a b cc i N3.out N4.out N5.out N7.out N8.out N9.out N11.out N12.out N13.out N14.out N15.out N17.out HF1.out)
            obtain ⟨r0, s0⟩ := cell_of_blk HR.out 0
            obtain ⟨r1, s1⟩ := cell_of_blk HR.out 1
            obtain ⟨r2, s2⟩ := cell_of_blk HR.out 2
            obtain ⟨r3, s3⟩ := cell_of_blk HR.out 3
            obtain ⟨r4, s4⟩ := cell_of_blk HR.out 4
            obtain ⟨r5, s5⟩ := cell_of_blk HR.out 5
            go_wp2_with fail
            clear c0 c1 c2 c3 c4 c5
            have hr7 := (blk_set (blk_set (blk_set (blk_set (blk_set (blk_set HR.out 0 (.int .i64 k)) 1 (.int .i64 d)) 2 (.int .i64 a)) 3 (.int .i64 b)) 4 (.int .i64 cc)) 5 (.int .i64 i))
            have hB7 := ((((((HB.out.setCell (p := ⟨w.heap.size + 1, 0, none⟩) (by show w.heap.size ≤ w.heap.size + 1; omega) (.int .i64 k)).setCell (p := ⟨w.heap.size + 1, 1, none⟩) (by show w.heap.size ≤ w.heap.size + 1; omega) (.int .i64 d)).setCell (p := ⟨w.heap.size + 1, 2, none⟩) (by show w.heap.size ≤ w.heap.size + 1; omega) (.int .i64 a)).setCell (p := ⟨w.heap.size + 1, 3, none⟩) (by show w.heap.size ≤ w.heap.size + 1; omega) (.int .i64 b)).setCell (p := ⟨w.heap.size + 1, 4, none⟩) (by show w.heap.size ≤ w.heap.size + 1; omega) (.int .i64 cc)).setCell (p := ⟨w.heap.size + 1, 5, none⟩) (by show w.heap.size ≤ w.heap.size + 1; omega) (.int .i64 i))
            generalize (((((w7.setCell ⟨w.heap.size + 1, 0, none⟩ (.int .i64 k)).setCell ⟨w.heap.size + 1, 1, none⟩ (.int .i64 d)).setCell ⟨w.heap.size + 1, 2, none⟩ (.int .i64 a)).setCell ⟨w.heap.size + 1, 3, none⟩ (.int .i64 b)).setCell ⟨w.heap.size + 1, 4, none⟩ (.int .i64 cc)).setCell ⟨w.heap.size + 1, 5, none⟩ (.int .i64 i) = w7 at *
            have k0 : w7.cell? ⟨w.heap.size + 1, 0, none⟩ = some (.int .i64 k) := (cell_of_blk hr7 0).1
            have k1 : w7.cell? ⟨w.heap.size + 1, 1, none⟩ = some (.int .i64 d) := (cell_of_blk hr7 1).1
            have k2 : w7.cell? ⟨w.heap.size + 1, 2, none⟩ = some (.int .i64 a) := (cell_of_blk hr7 2).1
            have k3 : w7.cell? ⟨w.heap.size + 1, 3, none⟩ = some (.int .i64 b) := (cell_of_blk hr7 3).1
            have k4 : w7.cell? ⟨w.heap.size + 1, 4, none⟩ = some (.int .i64 cc) := (cell_of_blk hr7 4).1
            have k5 : w7.cell? ⟨w.heap.size + 1, 5, none⟩ = some (.int .i64 i) := (cell_of_blk hr7 5).1
            clear hr7 r0 r1 r2 r3 r4 r5 s0 s1 s2 s3 s4 s5
            refine bodyPost_ret (v := .agg #[.int .i64 k, .int .i64 d, .int .i64 a, .int .i64 b, .int .i64 cc, .int .i64 i]) (by simp [results, Try.results20, go_sem, k0, k1, k2, k3, k4, k5]; try rfl) rfl ?_
            rw [← HPO.out]; exact ⟨by rw [HOE.out]; rfl, hB7⟩
      | some x =>
        rw [hvp] at hrk HVL
        have ha : all = false := by
          cases all with
          | false => rfl
          | true => simp at hrk
        subst ha
        unfold ValPost optVal at HVL
        clear hrk hvp
        go_wp2_with fail
        refine (HVL.out _).mono ?_
        rintro e w5 ⟨rfl, hb5⟩
        replace HX := Lib.hid ((hb5.block _ (lt_of_blk HX.out)).trans HX.out)
        replace HR := Lib.hid ((hb5.block _ (lt_of_blk HR.out)).trans HR.out)
        replace HB := Lib.hid (bch HB.out hb5)
        replace HL := Lib.hid (HL.out.next hb5)
        replace HZS : Hid (w.heap.size + 2 ≤ w5.heap.size) := Lib.hid (by have h1 := HZS.out; have h2 := hb5.size; omega)
        clear hb5 c0 c1 c2 c3 c4 c5 z0 z1 z2
        obtain ⟨c0, c1, c2, c3, c4, c5, _, _, _, _⟩ := op_cells_at HX.out
        go_upto_region 14 with (fail)
        clear c0 c1 c2 c3 c4 c5
        have HZ := Lib.hid (heap_alloc_new w5 (.cells #[.int .i64 1, .int .i64 d, .int .i64 0, .int .i64 0, .int .i64 0, .int .i64 0] 41))
        have hbz := bnew w5 (.cells #[.int .i64 1, .int .i64 d, .int .i64 0, .int .i64 0, .int .i64 0, .int .i64 0] 41)
        replace HX := Lib.hid ((hbz.block _ (lt_of_blk HX.out)).trans HX.out)
        replace HR := Lib.hid ((hbz.block _ (lt_of_blk HR.out)).trans HR.out)
        replace HB := Lib.hid (bch HB.out hbz)
        replace HL := Lib.hid (HL.out.next hbz)
        clear hbz
        generalize w5.alloc (.cells #[.int .i64 1, .int .i64 d, .int .i64 0, .int .i64 0, .int .i64 0, .int .i64 0] 41) = w6 at *
        generalize w5.heap.size = Z at *
        obtain ⟨c0, c1, c2, c3, c4, c5, _, _, _, _⟩ := op_cells_at HX.out
        go_quiet (fail)
        clear c0 c1 c2 c3 c4 c5
        have hbz := bdrawn (Below.refl w6.heap.size w6) nq
        replace HX := Lib.hid ((hbz.block _ (lt_of_blk HX.out)).trans HX.out)
        replace HR := Lib.hid ((hbz.block _ (lt_of_blk HR.out)).trans HR.out)
        replace HZ := Lib.hid ((hbz.block _ (lt_of_blk HZ.out)).trans HZ.out)
        replace HB := Lib.hid (bch HB.out hbz)
        replace HL := Lib.hid (HL.out.next hbz)
        clear hbz
        generalize w6.drewN nq = w7 at *
        obtain ⟨c0, c1, c2, c3, c4, c5, _, _, _, _⟩ := op_cells_at HX.out
        by_cases hs : a = b
        · have qs : (a == b) = true := by rw [beq_iff_eq]; exact hs
          have HF1 := Lib.hid hs
          clear hs
          have HOE : Hid (fdOp f ⟨k, d, a, b, cc, i⟩ = ⟨k, d, a, b, cc, i⟩) := Lib.hid (by rw [ft_op_none HNR.out]; exact ft_leaf_k_4 f k d a b cc i N3.out N4.out N5.out N7.out N8.out N9.out N11.out N12.out N13.out N14.out N15.out N17.out HF1.out)
          obtain ⟨r0, s0⟩ := cell_of_blk HR.out 0
          obtain ⟨r1, s1⟩ := cell_of_blk HR.out 1
          obtain ⟨r2, s2⟩ := cell_of_blk HR.out 2
          obtain ⟨r3, s3⟩ := cell_of_blk HR.out 3
          obtain ⟨r4, s4⟩ := cell_of_blk HR.out 4
          obtain ⟨r5, s5⟩ := cell_of_blk HR.out 5
          go_wp2_with fail
          clear c0 c1 c2 c3 c4 c5
          have hr7 := (blk_set (blk_set (blk_set (blk_set (blk_set (blk_set HR.out 0 (.int .i64 k)) 1 (.int .i64 d)) 2 (.int .i64 a)) 3 (.int .i64 b)) 4 (.int .i64 cc)) 5 (.int .i64 i))
          have hB7 := ((((((HB.out.setCell (p := ⟨w.heap.size + 1, 0, none⟩) (by show w.heap.size ≤ w.heap.size + 1; omega) (.int .i64 k)).setCell (p := ⟨w.heap.size + 1, 1, none⟩) (by show w.heap.size ≤ w.heap.size + 1; omega) (.int .i64 d)).setCell (p := ⟨w.heap.size + 1, 2, none⟩) (by show w.heap.size ≤ w.heap.size + 1; omega) (.int .i64 a)).setCell (p := ⟨w.heap.size + 1, 3, none⟩) (by show w.heap.size ≤ w.heap.size + 1; omega) (.int .i64 b)).setCell (p := ⟨w.heap.size + 1, 4, none⟩) (by show w.heap.size ≤ w.heap.size + 1; omega) (.int .i64 cc)).setCell (p := ⟨w.heap.size + 1, 5, none⟩) (by show w.heap.size ≤ w.heap.size + 1; omega) (.int .i64 i))
          generalize (((((w7.setCell ⟨w.heap.size + 1, 0, none⟩ (.int .i64 k)).setCell ⟨w.heap.size + 1, 1, none⟩ (.int .i64 d)).setCell ⟨w.heap.size + 1, 2, none⟩ (.int .i64 a)).setCell ⟨w.heap.size + 1, 3, none⟩ (.int .i64 b)).setCell ⟨w.heap.size + 1, 4, none⟩ (.int .i64 cc)).setCell ⟨w.heap.size + 1, 5, none⟩ (.int .i64 i) = w7 at *
          have k0 : w7.cell? ⟨w.heap.size + 1, 0, none⟩ = some (.int .i64 k) := (cell_of_blk hr7 0).1
          have k1 : w7.cell? ⟨w.heap.size + 1, 1, none⟩ = some (.int .i64 d) := (cell_of_blk hr7 1).1
          have k2 : w7.cell? ⟨w.heap.size + 1, 2, none⟩ = some (.int .i64 a) := (cell_of_blk hr7 2).1
          have k3 : w7.cell? ⟨w.heap.size + 1, 3, none⟩ = some (.int .i64 b) := (cell_of_blk hr7 3).1
          have k4 : w7.cell? ⟨w.heap.size + 1, 4, none⟩ = some (.int .i64 cc) := (cell_of_blk hr7 4).1
          have k5 : w7.cell? ⟨w.heap.size + 1, 5, none⟩ = some (.int .i64 i) := (cell_of_blk hr7 5).1
          clear hr7 r0 r1 r2 r3 r4 r5 s0 s1 s2 s3 s4 s5
          refine bodyPost_ret (v := .agg #[.int .i64 k, .int .i64 d, .int .i64 a, .int .i64 b, .int .i64 cc, .int .i64 i]) (by simp [results, Try.results20, go_sem, k0, k1, k2, k3, k4, k5]; try rfl) rfl ?_
          rw [← HPO.out]; exact ⟨by rw [HOE.out]; rfl, hB7⟩
        · have qs : (a == b) = false := by rw [beq_eq_false_iff_ne]; exact hs
          have HF1 := Lib.hid hs
          clear hs
          have HOE : Hid (fdOp f ⟨k, d, a, b, cc, i⟩ = ⟨k, d, a, b, cc, i⟩) := Lib.hid (by rw [ft_op_none HNR.out]; exact ft_leaf_k_5 f k d a b cc i N3.out N4.out N5.out N7.out N8.out N9.out N11.out N12.out N13.out N14.out N15.out N17.out HF1.out)
          obtain ⟨r0, s0⟩ := cell_of_blk HR.out 0
          obtain ⟨r1, s1⟩ := cell_of_blk HR.out 1
          obtain ⟨r2, s2⟩ := cell_of_blk HR.out 2
          obtain ⟨r3, s3⟩ := cell_of_blk HR.out 3
          obtain ⟨r4, s4⟩ := cell_of_blk HR.out 4
          obtain ⟨r5, s5⟩ := cell_of_blk HR.out 5
          go_wp2_with fail
          clear c0 c1 c2 c3 c4 c5
          have hr7 := (blk_set (blk_set (blk_set (blk_set (blk_set (blk_set HR.out 0 (.int .i64 k)) 1 (.int .i64 d)) 2 (.int .i64 a)) 3 (.int .i64 b)) 4 (.int .i64 cc)) 5 (.int .i64 i))
          have hB7 := ((((((HB.out.setCell (p := ⟨w.heap.size + 1, 0, none⟩) (by show w.heap.size ≤ w.heap.size + 1; omega) (.int .i64 k)).setCell (p := ⟨w.heap.size + 1, 1, none⟩) (by show w.heap.size ≤ w.heap.size + 1; omega) (.int .i64 d)).setCell (p := ⟨w.heap.size + 1, 2, none⟩) (by show w.heap.size ≤ w.heap.size + 1; omega) (.int .i64 a)).setCell (p := ⟨w.heap.size + 1, 3, none⟩) (by show w.heap.size ≤ w.heap.size + 1; omega) (.int .i64 b)).setCell (p := ⟨w.heap.size + 1, 4, none⟩) (by show w.heap.size ≤ w.heap.size + 1; omega) (.int .i64 cc)).setCell (p := ⟨w.heap.size + 1, 5, none⟩) (by show w.heap.size ≤ w.heap.size + 1; omega) (.int .i64 i))
          generalize (((((w7.setCell ⟨w.heap.size + 1, 0, none⟩ (.int .i64 k)).setCell ⟨w.heap.size + 1, 1, none⟩ (.int .i64 d)).setCell ⟨w.heap.size + 1, 2, none⟩ (.int .i64 a)).setCell ⟨w.heap.size + 1, 3, none⟩ (.int .i64 b)).setCell ⟨w.heap.size + 1, 4, none⟩ (.int .i64 cc)).setCell ⟨w.heap.size + 1, 5, none⟩ (.int .i64 i) = w7 at *
          have k0 : w7.cell? ⟨w.heap.size + 1, 0, none⟩ = some (.int .i64 k) := (cell_of_blk hr7 0).1
          have k1 : w7.cell? ⟨w.heap.size + 1, 1, none⟩ = some (.int .i64 d) := (cell_of_blk hr7 1).1
          have k2 : w7.cell? ⟨w.heap.size + 1, 2, none⟩ = some (.int .i64 a) := (cell_of_blk hr7 2).1
          have k3 : w7.cell? ⟨w.heap.size + 1, 3, none⟩ = some (.int .i64 b) := (cell_of_blk hr7 3).1
          have k4 : w7.cell? ⟨w.heap.size + 1, 4, none⟩ = some (.int .i64 cc) := (cell_of_blk hr7 4).1
          have k5 : w7.cell? ⟨w.heap.size + 1, 5, none⟩ = some (.int .i64 i) := (cell_of_blk hr7 5).1
          clear hr7 r0 r1 r2 r3 r4 r5 s0 s1 s2 s3 s4 s5
          refine bodyPost_ret (v := .agg #[.int .i64 k, .int .i64 d, .int .i64 a, .int .i64 b, .int .i64 cc, .int .i64 i]) (by simp [results, Try.results20, go_sem, k0, k1, k2, k3, k4, k5]; try rfl) rfl ?_
          rw [← HPO.out]; exact ⟨by rw [HOE.out]; rfl, hB7⟩
end Go.Proofs.Ytfadeipdepamlaa
