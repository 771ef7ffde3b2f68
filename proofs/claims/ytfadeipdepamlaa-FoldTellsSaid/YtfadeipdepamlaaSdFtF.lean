/- Parts of a proof. No condition but those that each theorem names. -/
import Derived.WalkKit
import Derived.OpenShut
import Derived.Below
import Derived.Lib.Hide
import Derived.Laws.OwnMore
import Derived.Deep.QuietTactic
import Derived.Deep.AppendLies
import Derived.ProofKit
import Derived.SizedLaws
import Derived.Test.YtfadeipdepamlaaProg
import Derived.Handy
import Derived.Deep.RegionHeld3
import Derived.BigQuiet
import Derived.Maps.AppendAt
import Derived.Maps.RangeWalk
import Derived.Maps.OwnSet
import Derived.StillTailTactics
import Derived.Laws.CopyOwn
import Derived.Lib.BufferWrite
import Derived.OrdersHeld
import Derived.RegionTactic
import Derived.Deep.DeepCutAuto
import Derived.Test.YtfadeipdepamlaaSdG0e0
import Derived.Test.YtfadeipdepamlaaSdG0e1
import Derived.Test.YtfadeipdepamlaaSdIr
import Derived.Test.YtfadeipdepamlaaSdG1e2
import Derived.Test.YtfadeipdepamlaaSdG1e4
import Derived.Test.YtfadeipdepamlaaSdIrC
import Derived.Test.YtfadeipdepamlaaSdG2e5
import Derived.Test.YtfadeipdepamlaaSdG2e6
import Derived.Test.YtfadeipdepamlaaSdG2e10
import Derived.Test.YtfadeipdepamlaaSdG0e11
import Derived.Test.YtfadeipdepamlaaSdG2e13
import Derived.Test.YtfadeipdepamlaaSdCopB
import Derived.Test.YtfadeipdepamlaaSdG3e14
import Derived.Test.YtfadeipdepamlaaSdRefM
import Derived.Test.YtfadeipdepamlaaSdFoldM
import Derived.Test.YtfadeipdepamlaaSdG4e14
import Derived.Test.YtfadeipdepamlaaSdFtA
import Derived.Test.YtfadeipdepamlaaSdFoldA
import Derived.Test.YtfadeipdepamlaaSdG6be17
namespace Go.Proofs.Ytfadeipdepamlaa
open Go.RowKit Go.Maps
set_option linter.unusedVariables false
set_option maxRecDepth 100000 in
set_option maxHeartbeats 4000000 in
theorem ref19_Fold_bad (p : Ir) (av bv : Value) (hf : p.fine) (he : irErr p ≠ 0) (w : World) (hI : IrRep w w.heap.size p av bv) :
    Calls Try.prog 14 #[irVal p av bv] w (PassPost irZero (irErr p) w) := by
  have HC := Lib.hid (fun W h => ref_Check p av bv hf W h)
  have HI := Lib.hid hI
  have q : (irErr p != 0) = true := by rw [bne_iff_ne]; exact he
  unfold irVal at *
  generalize irErr p = fe at *
  have hx0 := alloc_last _ _ (alloc_size w (.cells #[.int .i64 p.temps, av, bv, .int .i64 p.inp, .int .i64 p.out] 25) rfl) (.cells #[.int .i64 0, .slice none 0 0, .slice none 0 0, .int .i64 0, .int .i64 0] 25)
  have hb1 := bal (bnew w (.cells #[.int .i64 p.temps, av, bv, .int .i64 p.inp, .int .i64 p.out] 25)) (.cells #[.int .i64 0, .slice none 0 0, .slice none 0 0, .int .i64 0, .int .i64 0] 25)
  clear hI he hf
  go_enter Try.func14, Try.ntmps14
  go_wp2_with fail
  refine (HC.out _ (HI.out.next hb1)).mono ?_
  rintro e w2 ⟨rfl, hb2⟩
  have hx := (hb2.block _ (lt_of_blk hx0)).trans hx0
  have HB := Lib.hid (bch hb1 hb2)
  obtain ⟨r0, s0⟩ := cell_of_blk hx 0
  obtain ⟨r1, s1⟩ := cell_of_blk hx 1
  obtain ⟨r2, s2⟩ := cell_of_blk hx 2
  obtain ⟨r3, s3⟩ := cell_of_blk hx 3
  obtain ⟨r4, s4⟩ := cell_of_blk hx 4
  clear hx0 hb1 hb2
  go_wp2_with fail
  have hr7 := blk_set (blk_set (blk_set (blk_set (blk_set hx 0 (.int .i64 0)) 1 (.slice none 0 0)) 2 (.slice none 0 0)) 3 (.int .i64 0)) 4 (.int .i64 0)
  have hB7 := ((((HB.out.setCell (p := ⟨w.heap.size + 1, 0, none⟩) (by show w.heap.size ≤ w.heap.size + 1; omega) (.int .i64 0)).setCell (p := ⟨w.heap.size + 1, 1, none⟩) (by show w.heap.size ≤ w.heap.size + 1; omega) (.slice none 0 0)).setCell (p := ⟨w.heap.size + 1, 2, none⟩) (by show w.heap.size ≤ w.heap.size + 1; omega) (.slice none 0 0)).setCell (p := ⟨w.heap.size + 1, 3, none⟩) (by show w.heap.size ≤ w.heap.size + 1; omega) (.int .i64 0)).setCell (p := ⟨w.heap.size + 1, 4, none⟩) (by show w.heap.size ≤ w.heap.size + 1; omega) (.int .i64 0)
  generalize ((((w2.setCell ⟨w.heap.size + 1, 0, none⟩ (.int .i64 0)).setCell ⟨w.heap.size + 1, 1, none⟩ (.slice none 0 0)).setCell ⟨w.heap.size + 1, 2, none⟩ (.slice none 0 0)).setCell ⟨w.heap.size + 1, 3, none⟩ (.int .i64 0)).setCell ⟨w.heap.size + 1, 4, none⟩ (.int .i64 0) = w7 at *
  have k0 : w7.cell? ⟨w.heap.size + 1, 0, none⟩ = some (.int .i64 0) := (cell_of_blk hr7 0).1
  have k1 : w7.cell? ⟨w.heap.size + 1, 1, none⟩ = some (.slice none 0 0) := (cell_of_blk hr7 1).1
  have k2 : w7.cell? ⟨w.heap.size + 1, 2, none⟩ = some (.slice none 0 0) := (cell_of_blk hr7 2).1
  have k3 : w7.cell? ⟨w.heap.size + 1, 3, none⟩ = some (.int .i64 0) := (cell_of_blk hr7 3).1
  have k4 : w7.cell? ⟨w.heap.size + 1, 4, none⟩ = some (.int .i64 0) := (cell_of_blk hr7 4).1
  clear hr7 hx r0 r1 r2 r3 r4 s0 s1 s2 s3 s4
  refine bodyPost_ret (by simp [results, Try.results14, go_sem, k0, k1, k2, k3, k4]; try rfl) rfl ?_
  exact ⟨none, 0, none, 0, rfl, ⟨SlRep.nil_ _ _, SlRep.nil_ _ _⟩, hB7⟩
set_option maxRecDepth 100000 in
set_option maxHeartbeats 8000000 in
theorem ref19_Fold (p : Ir) (av bv : Value) (hf : p.fine) (he : irErr p = 0) (w : World) (hI : IrRep w w.heap.size p av bv) :
    Calls Try.prog 14 #[irVal p av bv] w (PassPost (fdIr p) 0 w) := by
  have HC := Lib.hid (fun W h => ref_Check p av bv hf W h)
  rw [he] at HC
  obtain ⟨hng, hm⟩ := irErr_ok he
  unfold greatP at hng
  have hrs := railSum_nonneg p.arrays
  have hn1 : p.arrays.length ≤ 1048576 := by omega
  have hn2 : p.blocks.length ≤ 1048576 := by omega
  have HOPS : Hid (∀ k, k < p.blocks.length → (p.blocks.getD k blkNone).ops.length ≤ 1048576) := Lib.hid (fun k hk => by
    have h1 := opsSum_step p.blocks k hk
    have h2 := opsSum_take p.blocks (k + 1)
    omega)
  obtain ⟨AA, ac, rfl, hac⟩ := hI.1.form
  obtain ⟨BA, bc, rfl, hbc⟩ := hI.2.form
  have HI := Lib.hid hI
  unfold irVal at *
  obtain ⟨hx0, hx1⟩ : ((w.alloc (.cells #[.int .i64 p.temps, (.slice AA p.arrays.length ac), .slice BA p.blocks.length bc, .int .i64 p.inp, .int .i64 p.out] 25)).alloc (.cells #[.int .i64 0, .slice none 0 0, .slice none 0 0, .int .i64 0, .int .i64 0] 25)).heap[w.heap.size]? = some (.cells #[.int .i64 p.temps, (.slice AA p.arrays.length ac), .slice BA p.blocks.length bc, .int .i64 p.inp, .int .i64 p.out] 25 (0, 0)) ∧
      ((w.alloc (.cells #[.int .i64 p.temps, (.slice AA p.arrays.length ac), .slice BA p.blocks.length bc, .int .i64 p.inp, .int .i64 p.out] 25)).alloc (.cells #[.int .i64 0, .slice none 0 0, .slice none 0 0, .int .i64 0, .int .i64 0] 25)).heap[w.heap.size + 1]? = some (.cells #[.int .i64 0, .slice none 0 0, .slice none 0 0, .int .i64 0, .int .i64 0] 25 (0, 0)) := by
    have e := alloc_size w (.cells #[.int .i64 p.temps, (.slice AA p.arrays.length ac), .slice BA p.blocks.length bc, .int .i64 p.inp, .int .i64 p.out] 25) rfl
    exact ⟨alloc_old (alloc_last w _ rfl _) _, alloc_last _ _ e _⟩
  have hz1 : ((w.alloc (.cells #[.int .i64 p.temps, (.slice AA p.arrays.length ac), .slice BA p.blocks.length bc, .int .i64 p.inp, .int .i64 p.out] 25)).alloc (.cells #[.int .i64 0, .slice none 0 0, .slice none 0 0, .int .i64 0, .int .i64 0] 25)).heap.size = w.heap.size + 1 + 1 := alloc_size _ _ (alloc_size w _ rfl)
  have hb1 := bal (bnew w (.cells #[.int .i64 p.temps, (.slice AA p.arrays.length ac), .slice BA p.blocks.length bc, .int .i64 p.inp, .int .i64 p.out] 25)) (.cells #[.int .i64 0, .slice none 0 0, .slice none 0 0, .int .i64 0, .int .i64 0] 25)
  generalize hPO : PassPost (fdIr p) 0 w = PO
  have HPO := Lib.hid hPO
  clear hng hrs hI hm he hf hPO
  go_enter Try.func14, Try.ntmps14
  go_wp2_with fail
  generalize (w.alloc (.cells #[.int .i64 p.temps, (.slice AA p.arrays.length ac), .slice BA p.blocks.length bc, .int .i64 p.inp, .int .i64 p.out] 25)).alloc (.cells #[.int .i64 0, .slice none 0 0, .slice none 0 0, .int .i64 0, .int .i64 0] 25) = w0 at *
  refine (HC.out _ (HI.out.next hb1)).mono ?_
  rintro e w1 ⟨rfl, hb2⟩
  have HX0 := Lib.hid ((hb2.block _ (lt_of_blk hx0)).trans hx0)
  have HX1 := Lib.hid ((hb2.block _ (lt_of_blk hx1)).trans hx1)
  have HZ1 : Hid (w.heap.size + 1 + 1 ≤ w1.heap.size) := Lib.hid (by have := hb2.size; omega)
  have HB1 := Lib.hid (bch hb1 hb2)
  have HRA := Lib.hid ((HI.out.next hb1).next hb2).1
  have HRB := Lib.hid HI.out.2
  clear hx0 hx1 hz1 hb1 hb2
  obtain ⟨c0, c1, c2, c3, c4, f2⟩ := ir_cells_at HX0.out
  go_wp2_with fail
  clear c0 c1 c2 c3 c4 f2
  go_loopw [5, 6] (fun vl vi wr => ∃ (k : Nat) (ovs : List Value), k ≤ p.blocks.length ∧ vi = .int .i64 k ∧ BlksAt wr w1.heap.size vl ((p.blocks.take k).map fdBlk) ovs ∧ Below w1.heap.size w1 wr) (fun _ vi _ => p.blocks.length - (intOf vi).toNat)
  case atStart => exact ⟨0, [], Nat.zero_le _, rfl, BlksAt.nil_ _ _, Below.refl _ _⟩
  case round =>
    obtain ⟨k, ovs, hk, rfl, hBA, hBW⟩ := hrel
    have HBA := Lib.hid hBA
    have HBW := Lib.hid hBW
    have hz1 := HZ1.out
    have hxr := (hBW.block w.heap.size (by omega)).trans HX0.out
    have HXR := Lib.hid hxr
    obtain ⟨LA, lc, rfl⟩ := ownN_len hBA.row
    obtain ⟨c0, c1, c2, c3, c4, f2⟩ := ir_cells_at hxr
    clear hBA hBW hxr
    by_cases hlt : k < p.blocks.length
    · obtain ⟨b, off, rfl, hb0, OA, oc, hops, hoc, x0, x1, x2, x3, x4⟩ := blk_at HRB.out k hlt
      have hbw := HB1.out.trans (HBW.out.mono HB1.out.size)
      have hcw : ∀ o, wr.cell? ⟨b, o, none⟩ = w.cell? ⟨b, o, none⟩ := fun o => hbw.cell (p := ⟨b, o, none⟩) hb0
      rw [← hcw] at x0 x1 x2 x3 x4
      have hops1 := HOPS.out k hlt
      have HTK := Lib.hid (map_take_succ fdBlk p.blocks k blkNone hlt)
      have HHB := Lib.hid hbw
      have hlo := fdList_len (p.blocks.getD k blkNone).ops
      generalize p.blocks.getD k blkNone = bk at *
      obtain ⟨ops, trm⟩ := bk
      obtain ⟨tk, ta, ty, tn⟩ := trm
      simp only at hops hoc x0 x1 x2 x3 x4 hops1 hlo
      have HOPR := Lib.hid hops
      have k0 : (0 : Int) ≤ (k : Int) := by omega
      have k1 : (k : Int) < (p.blocks.length : Int) := by omega
      have HXX := Lib.hid (And.intro x0 (And.intro x1 (And.intro x2 (And.intro x3 x4))))
      have HQ : Hid (fdBlk ⟨ops, tk, ta, ty, tn⟩ = ⟨(fdList ops).2, fdTrm (fdList ops).1 ⟨tk, ta, ty, tn⟩⟩) := Lib.hid rfl
      generalize fdBlk ⟨ops, tk, ta, ty, tn⟩ = qb at *
      have HB0 := Lib.hid hb0
      clear hbw hops hcw
      have hlk0 : ((p.blocks.take k).map fdBlk).length = k := by simp; omega
      rw [hlk0] at HBA ⊢
      clear hlk0
      generalize wr = wo at *
      go_wp2_with fail
      clear x0 x1 x2 x3 x4 c0 c1 c2 c3 c4 f2
      go_loopw [7, 8] (fun vl vj wq => ∃ j : Nat, j ≤ ops.length ∧ vj = .int .i64 j ∧ Below wo.heap.size wo wq ∧ wq.ownsRow wo.heap.size 41 6 vl (fdList (ops.take j)).2.length (opsCells (fdList (ops.take j)).2)) (fun _ vj _ => ops.length - (intOf vj).toNat)
      case atStart => exact ⟨0, Nat.zero_le _, rfl, Below.refl _ _, World.ownsRow_nil _ _ _ _⟩
      case round =>
        obtain ⟨j, hj, rfl, hbq, hrow⟩ := hrel
        have HBQ := Lib.hid hbq
        have HROW := Lib.hid hrow
        have hbW := HHB.out.trans (hbq.mono HHB.out.size)
        have HBWq := Lib.hid hbW
        have HXQ := Lib.hid ((hbq.block _ (lt_of_blk HXR.out)).trans HXR.out)
        obtain ⟨c0, c1, c2, c3, c4, f2⟩ := ir_cells_at HXQ.out
        have hcw : ∀ o, wr.cell? ⟨b, o, none⟩ = wo.cell? ⟨b, o, none⟩ := fun o => hbq.cell (p := ⟨b, o, none⟩) (Nat.lt_of_lt_of_le HB0.out HHB.out.size)
        obtain ⟨x0, x1, x2, x3, x4⟩ := HXX.out
        rw [← hcw] at x0 x1 x2 x3 x4
        obtain ⟨VA, vc, rfl⟩ := ownN_len hrow
        have HHS : Hid (wo.heap.size ≤ wr.heap.size) := Lib.hid hbq.size
        clear hbq hrow hbW hcw
        by_cases hjl : j < ops.length
        · obtain ⟨ob, ooff, rfl, hob, y0, y1, y2, y3, y4, y5⟩ := op_at (HOPR.out.below HBWq.out (Nat.le_refl _)) j hjl
          have HSN : Hid (fdList (ops.take (j + 1)) = fdStep (fdList (ops.take j)) (ops.getD j opNone)) := Lib.hid (by rw [take_succ_getD ops j opNone hjl, fdList_snoc])
          have HFT := Lib.hid (ft_list (ops.take j))
          have hlen := fdList_len (ops.take j)
          rw [List.length_take, Nat.min_eq_left hj] at hlen
          have j0 : (0 : Int) ≤ (j : Int) := by omega
          have j1 : (j : Int) < (ops.length : Int) := by omega
          generalize ops.getD j opNone = o at *
          generalize fdList (ops.take j) = S at *
          obtain ⟨f, l⟩ := S
          simp only at HFT hlen HROW ⊢
          unfold fdStep at HSN
          simp only at HSN
          have HLEN := Lib.hid hlen
          have HOPC := Lib.hid (fun W h => ref19_Op l f HFT.out VA vc o (by omega) W h)
          clear hlen
          unfold CopPost opVal at HOPC
          go_wp2_with fail
          refine (HOPC.out _ (slRep_ops (Nat.le_refl _) HROW.out)).mono ?_
          rintro e w2 ⟨rfl, hb2⟩
          generalize fdOp f o = q at *
          have hs2 := hb2.size
          have HB2 := Lib.hid (HBQ.out.trans (hb2.mono HHS.out))
          have hbn := bnew w2 (.cells #[.int .i64 q.kind, .int .i64 q.dst, .int .i64 q.a, .int .i64 q.b, .int .i64 q.c, .int .i64 q.imm] 41)
          have HB3 := Lib.hid (HB2.out.trans (hbn.mono (by have := HHS.out; omega)))
          have hrow3 := own_below (own_below HROW.out hb2) hbn
          have hX3 := heap_alloc_new w2 (.cells #[.int .i64 q.kind, .int .i64 q.dst, .int .i64 q.a, .int .i64 q.b, .int .i64 q.c, .int .i64 q.imm] 41)
          clear x0 x1 x2 x3 x4 y0 y1 y2 y3 y4 y5 c0 c1 c2 c3 c4 f2 hb2
          go_upto_region 13 with (fail)
          have hss : wo.heap.size ≤ (w2.alloc (.cells #[.int .i64 q.kind, .int .i64 q.dst, .int .i64 q.a, .int .i64 q.b, .int .i64 q.c, .int .i64 q.imm] 41)).heap.size := HB3.out.size
          generalize w2.alloc (.cells #[.int .i64 q.kind, .int .i64 q.dst, .int .i64 q.a, .int .i64 q.b, .int .i64 q.c, .int .i64 q.imm] 41) = w3 at *
          obtain ⟨y0, y1, y2, y3, y4, y5, _, _, _, _⟩ := op_cells_at hX3
          obtain ⟨v', w4, hrun, g1, g2, _⟩ := run_append_op w3 wo.heap.size _ l hrow3 q (by have := HLEN.out; omega) hss
          have HRUN := Lib.hid hrun
          have HG1 := Lib.hid g1
          have HB4 := Lib.hid ((HB3.out.alloc hss (.cells #[.int .i64 q.kind, .int .i64 q.dst, .int .i64 q.a, .int .i64 q.b, .int .i64 q.c, .int .i64 q.imm] 41)).grown g2 (by simp; omega) (fun r hr => (hrow3.lt r hr).1))
          clear hrun g1 g2 hrow3 hbn hX3 hss hs2
          go_wp2_with (at_builtin; refine wpList_app rfl (.tmp 45) (.tmp 47) 34 rfl HRUN.out rfl rfl ?_)
          go_roundw
          case rel => exact ⟨j + 1, by omega, by go_num, HB4.out, by rw [HSN.out]; exact HG1.out⟩
          case measure => simp [intOf]; omega
        · obtain rfl : j = ops.length := by omega
          rw [List.take_length] at HROW ⊢
          have HFT := Lib.hid (ft_list ops)
          generalize fdList ops = S at *
          obtain ⟨f, l⟩ := S
          simp only at HFT HROW HQ hlo ⊢
          have HLO := Lib.hid hlo
          have HTM := Lib.hid (fun W h => ref19_Term l f HFT.out VA vc ⟨tk, ta, ty, tn⟩ (by omega) W h)
          clear hlo
          unfold FtTrm trmVal at HTM
          simp only at HTM
          go_wp2_with fail
          refine (HTM.out _ (slRep_ops (Nat.le_refl _) HROW.out)).mono ?_
          rintro e w3 ⟨rfl, hb3⟩
          have hqo := own_below HROW.out hb3
          have HB3 := Lib.hid (HBQ.out.trans (hb3.mono HHS.out))
          generalize fdTrm f ⟨tk, ta, ty, tn⟩ = qt at *
          obtain ⟨qk, qa, qy, qn⟩ := qt
          clear x0 x1 x2 x3 x4 c0 c1 c2 c3 c4 f2
          have hBv := HBA.out.below HB3.out
          have hlk : ((p.blocks.take k).map fdBlk).length = k := by simp; omega
          have hszq := HBW.out.size
          have hszv := HB3.out.size
          obtain ⟨v', w9, hrun, g1', g2', _⟩ := hBv.push hqo (by have := HLO.out; omega) (fun r hr => by
            intro e9
            have h1 := (hqo.lt r hr).1
            have h2 := (HBA.out.row.lt r e9).2
            omega) (by omega) (by rw [hlk]; omega) ⟨qk, qa, qy, qn⟩
          try rw [hlk] at hrun
          have HRUN := Lib.hid hrun
          have HG1 := Lib.hid g1'
          have HG2 := Lib.hid (g2' (HBW.out.trans (HB3.out.mono hszq)) (Nat.le_refl _))
          clear hrun g1' g2' hBv hqo hb3 hlk hszq hszv
          go_wp2_with (at_builtin; refine wpList_app rfl (.tmp 49) (.tmp 60) 23 rfl HRUN.out rfl rfl ?_)
          go_roundw
          case rel => exact ⟨k + 1, _, by omega, by go_num, by rw [HTK.out, HQ.out]; exact HG1.out, HG2.out⟩
          case measure => simp [intOf]; omega
    · obtain rfl : k = p.blocks.length := by omega
      have hBF := HBA.out
      rw [List.take_length] at hBF
      have hlb : (p.blocks.map fdBlk).length = p.blocks.length := List.length_map ..
      have hLA : BlksAt wr w1.heap.size (.slice LA p.blocks.length lc) (p.blocks.map fdBlk) ovs := by
        have h := hBF; simp only [List.length_map] at h; exact h
      have hxf := blk_set HXR.out 2 (.slice LA p.blocks.length lc)
      have hr1 := (HBW.out.block _ (lt_of_blk HX1.out)).trans HX1.out
      have hr5 := blk_far hr1 ⟨w.heap.size, 2, none⟩ (.slice LA p.blocks.length lc) (by show w.heap.size ≠ w.heap.size + 1; omega)
      have hB5 := ((HB1.out.trans (HBW.out.mono HB1.out.size)).setCell (p := ⟨w.heap.size, 2, none⟩) (Nat.le_refl _) (.slice LA p.blocks.length lc))
      have hlow : ∀ i, (⟨w.heap.size, i, none⟩ : Addr).block < w1.heap.size := fun i => by show w.heap.size < _; omega
      have hbl5 := hLA.setLow ⟨w.heap.size, 2, none⟩ (.slice LA p.blocks.length lc) (hlow 2)
      have hse : (wr.setCell ⟨w.heap.size, 2, none⟩ (.slice LA p.blocks.length lc)).heap.size = wr.heap.size := by simp [World.setCell]
      have hra5 : SlRep arrEnc (wr.setCell ⟨w.heap.size, 2, none⟩ (.slice LA p.blocks.length lc)) w.heap.size (.slice AA p.arrays.length ac) p.arrays := HI.out.1.below hB5 (Nat.le_refl _)
      obtain ⟨g0, g1, g2, g3, g4, g5⟩ := ir_cells_at hxf
      have f1 := (cell_of_blk hxf 1).2
      have HXF := Lib.hid hxf
      have HR5 := Lib.hid hr5
      have HB5 := Lib.hid hB5
      have HBL5 := Lib.hid hbl5
      have HRA5 := Lib.hid hra5
      have HSE := Lib.hid hse
      clear hxf hr1 hr5 hB5 hbl5 hra5 hBF hLA hse
      go_upto_region 16 with (fail)
      clear c0 c1 c2 c3 c4 f2
      generalize wr.setCell ⟨w.heap.size, 2, none⟩ (.slice LA p.blocks.length lc) = w7 at *
      have HB7 := HB5
      have HR7 := HR5
      have HBL7 := HBL5
      obtain ⟨r0, s0⟩ := cell_of_blk HR5.out 0
      obtain ⟨r1, s1⟩ := cell_of_blk HR5.out 1
      obtain ⟨r2, s2⟩ := cell_of_blk HR5.out 2
      obtain ⟨r3, s3⟩ := cell_of_blk HR5.out 3
      obtain ⟨r4, s4⟩ := cell_of_blk HR5.out 4
      go_wp2_with fail
      have hr8 := blk_set (blk_set (blk_set (blk_set (blk_set HR7.out 0 (.int .i64 p.temps)) 1 (.slice AA p.arrays.length ac)) 2 (.slice LA p.blocks.length lc)) 3 (.int .i64 p.inp)) 4 (.int .i64 p.out)
      have hB8 := ((((HB7.out.setCell (p := ⟨w.heap.size + 1, 0, none⟩) (by show w.heap.size ≤ w.heap.size + 1; omega) (.int .i64 p.temps)).setCell (p := ⟨w.heap.size + 1, 1, none⟩) (by show w.heap.size ≤ w.heap.size + 1; omega) (.slice AA p.arrays.length ac)).setCell (p := ⟨w.heap.size + 1, 2, none⟩) (by show w.heap.size ≤ w.heap.size + 1; omega) (.slice LA p.blocks.length lc)).setCell (p := ⟨w.heap.size + 1, 3, none⟩) (by show w.heap.size ≤ w.heap.size + 1; omega) (.int .i64 p.inp)).setCell (p := ⟨w.heap.size + 1, 4, none⟩) (by show w.heap.size ≤ w.heap.size + 1; omega) (.int .i64 p.out)
      have hlow2 : w.heap.size + 1 < w1.heap.size := by omega
      have hl8 := ((((HBL7.out.setLow ⟨w.heap.size + 1, 0, none⟩ (.int .i64 p.temps) hlow2).setLow ⟨w.heap.size + 1, 1, none⟩ (.slice AA p.arrays.length ac) hlow2).setLow ⟨w.heap.size + 1, 2, none⟩ (.slice LA p.blocks.length lc) hlow2).setLow ⟨w.heap.size + 1, 3, none⟩ (.int .i64 p.inp) hlow2).setLow ⟨w.heap.size + 1, 4, none⟩ (.int .i64 p.out) hlow2
      generalize ((((w7.setCell ⟨w.heap.size + 1, 0, none⟩ (.int .i64 p.temps)).setCell ⟨w.heap.size + 1, 1, none⟩ (.slice AA p.arrays.length ac)).setCell ⟨w.heap.size + 1, 2, none⟩ (.slice LA p.blocks.length lc)).setCell ⟨w.heap.size + 1, 3, none⟩ (.int .i64 p.inp)).setCell ⟨w.heap.size + 1, 4, none⟩ (.int .i64 p.out) = w8 at *
      have k0 : w8.cell? ⟨w.heap.size + 1, 0, none⟩ = some (.int .i64 p.temps) := (cell_of_blk hr8 0).1
      have k1 : w8.cell? ⟨w.heap.size + 1, 1, none⟩ = some (.slice AA p.arrays.length ac) := (cell_of_blk hr8 1).1
      have k2 : w8.cell? ⟨w.heap.size + 1, 2, none⟩ = some (.slice LA p.blocks.length lc) := (cell_of_blk hr8 2).1
      have k3 : w8.cell? ⟨w.heap.size + 1, 3, none⟩ = some (.int .i64 p.inp) := (cell_of_blk hr8 3).1
      have k4 : w8.cell? ⟨w.heap.size + 1, 4, none⟩ = some (.int .i64 p.out) := (cell_of_blk hr8 4).1
      clear hr8 r0 r1 r2 r3 r4 s0 s1 s2 s3 s4 g0 g1 g2 g3 g4 g5
      refine bodyPost_ret (by simp [results, Try.results14, go_sem, k0, k1, k2, k3, k4]; try rfl) rfl ?_
      rw [← HPO.out]
      have hrb := hl8.rep
      have hra : SlRep arrEnc w8 w8.heap.size (.slice AA p.arrays.length ac) p.arrays := (HI.out.1.below hB8 (Nat.le_refl _)).keep hB8.size (fun _ _ => rfl)
      have hfin : IrRep w8 w8.heap.size (fdIr p) (.slice AA p.arrays.length ac) (.slice LA p.blocks.length lc) := ⟨hra, hrb⟩
      refine ⟨AA, ac, LA, lc, ?_, ?_, hB8⟩
      · show _ = Ending.returned (.tuple #[.agg #[.int .i64 p.temps, .slice AA p.arrays.length ac, .slice LA (p.blocks.map fdBlk).length lc, .int .i64 p.inp, .int .i64 p.out], .int .i64 0])
        rw [hlb]
      · show IrRep w8 w8.heap.size (fdIr p) (.slice AA p.arrays.length ac) (.slice LA (p.blocks.map fdBlk).length lc)
        rw [hlb]; exact hfin
end Go.Proofs.Ytfadeipdepamlaa
