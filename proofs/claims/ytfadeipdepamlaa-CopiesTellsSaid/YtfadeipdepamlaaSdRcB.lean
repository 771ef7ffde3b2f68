/- Parts of a proof. No condition but those that each theorem names. -/
import Derived.WalkKit
import Derived.OpenShut
import Derived.Below
import Derived.Lib.Hide
import Derived.Laws.OwnMore
import Derived.Deep.QuietTactic
import Derived.Deep.AppendLies
import Derived.ProofKit
import Derived.SizedLaws
import Derived.Test.YtfadeipdepamlaaProg
import Derived.Handy
import Derived.Deep.RegionHeld3
import Derived.BigQuiet
import Derived.Maps.AppendAt
import Derived.Maps.RangeWalk
import Derived.Maps.OwnSet
import Derived.StillTailTactics
import Derived.Laws.CopyOwn
import Derived.Lib.BufferWrite
import Derived.OrdersHeld
import Derived.RegionTactic
import Derived.Deep.DeepCutAuto
import Derived.Test.YtfadeipdepamlaaSdG0e0
import Derived.Test.YtfadeipdepamlaaSdG0e1
import Derived.Test.YtfadeipdepamlaaSdIr
import Derived.Test.YtfadeipdepamlaaSdG1e2
import Derived.Test.YtfadeipdepamlaaSdG0e3
import Derived.Test.YtfadeipdepamlaaSdG1e4
import Derived.Test.YtfadeipdepamlaaSdIrC
import Derived.Test.YtfadeipdepamlaaSdG2e5
import Derived.Test.YtfadeipdepamlaaSdG2e6
import Derived.Test.YtfadeipdepamlaaSdG2e10
import Derived.Test.YtfadeipdepamlaaSdG0e11
import Derived.Test.YtfadeipdepamlaaSdG2e13
import Derived.Test.YtfadeipdepamlaaSdCopB
import Derived.Test.YtfadeipdepamlaaSdG3e14
import Derived.Test.YtfadeipdepamlaaSdRefU
import Derived.Test.YtfadeipdepamlaaSdCopD
namespace Go.Proofs.Ytfadeipdepamlaa
open Go.RowKit
set_option linter.unusedVariables false
set_option maxRecDepth 100000 in
set_option maxHeartbeats 40000000 in
theorem ref20_Block (OA : Option Addr) (oc : Nat) (b : Blk) (hf : b.fine) (hn : b.ops.length ≤ 1048576) (w : World) (hO : SlRep opEnc w w.heap.size (.slice OA b.ops.length oc) b.ops) :
    Calls Try.prog 18 #[.agg #[.slice OA b.ops.length oc, .int .i64 b.term.kind, .int .i64 b.term.a, .int .i64 b.term.yes, .int .i64 b.term.no]] w (BlPost (cpBlk b) w) := by
  obtain ⟨ops, trm⟩ := b
  obtain ⟨tk, ta, ty, tn⟩ := trm
  simp only at hn hO ⊢
  have HO := Lib.hid hO
  have e1 := alloc_size w (.cells #[.slice OA ops.length oc, .int .i64 tk, .int .i64 ta, .int .i64 ty, .int .i64 tn] 39) rfl
  have e2 := alloc_size _ (.cells #[.slice none 0 0, .int .i64 0, .int .i64 0, .int .i64 0, .int .i64 0] 39) e1
  have e3 := alloc_size _ (.cells #[.slice none 0 0, .int .i64 0, .int .i64 0, .int .i64 0, .int .i64 0] 39) e2
  have hcp : RbAt w w.heap.size (((w.alloc (.cells #[.slice OA ops.length oc, .int .i64 tk, .int .i64 ta, .int .i64 ty, .int .i64 tn] 39)).alloc (.cells #[.slice none 0 0, .int .i64 0, .int .i64 0, .int .i64 0, .int .i64 0] 39)).alloc (.cells #[.slice none 0 0, .int .i64 0, .int .i64 0, .int .i64 0, .int .i64 0] 39)) #[.slice OA ops.length oc, .int .i64 tk, .int .i64 ta, .int .i64 ty, .int .i64 tn] (.slice none 0 0) (.slice none 0 0) [] [] :=
    ⟨alloc_old (alloc_old (alloc_last w _ rfl _) _) _, alloc_old (alloc_last _ _ e1 _) _, alloc_last _ _ e2 _, World.ownsRow_nil _ _ _ _, World.ownsRow_nil _ _ _ _, (fun r h => by cases h), bal (bal (bnew w _) _) _, by rw [e3]; omega⟩
  have HCP := Lib.hid hcp
  have HPL : Hid (∀ f' l', cpList ops = (f', l') → cpBlk ⟨ops, tk, ta, ty, tn⟩ = ⟨l', tk, if tk = 2 then cpOf f' ta else ta, ty, tn⟩) := Lib.hid (fun f' l' e => by unfold cpBlk cpTrm; simp only; rw [e])
  generalize hPO : BlPost (cpBlk ⟨ops, tk, ta, ty, tn⟩) w = PO
  have HPO := Lib.hid hPO
  clear hPO hcp e1 e2 e3 hO hf
  go_enter Try.func18, Try.ntmps18
  go_wp2_with fail
  generalize (((w.alloc (.cells #[.slice OA ops.length oc, .int .i64 tk, .int .i64 ta, .int .i64 ty, .int .i64 tn] 39)).alloc (.cells #[.slice none 0 0, .int .i64 0, .int .i64 0, .int .i64 0, .int .i64 0] 39)).alloc (.cells #[.slice none 0 0, .int .i64 0, .int .i64 0, .int .i64 0, .int .i64 0] 39)) = w4 at *
  go_loopw [3, 5] (fun vl vi wr => ∃ (k : Nat) (pl : List (Int × Int)) (ov : Value), k ≤ ops.length ∧ pl.length ≤ k ∧ vi = .int .i64 k ∧ RbAt w w.heap.size wr #[.slice OA ops.length oc, .int .i64 tk, .int .i64 ta, .int .i64 ty, .int .i64 tn] ov vl (cpList (ops.take k)).2 pl ∧ PairsOf pl (cpList (ops.take k)).1) (fun _ vi _ => ops.length - (intOf vi).toNat)
  case atStart => exact ⟨0, [], _, Nat.zero_le _, Nat.le_refl _, rfl, HCP.out, PairsOf.nil_⟩
  case round =>
    obtain ⟨k, pl, ov, hk, hnk, rfl, hC, hP⟩ := hrel
    have HC := Lib.hid hC
    have HP := Lib.hid hP
    obtain ⟨LA, lc, rfl⟩ := ownN_len hC.prow
    obtain ⟨b0, b1, b2, b3, b4, _, _⟩ := blk_cells_at hC.bX
    by_cases hlt : k < ops.length
    · obtain ⟨ob, ooff, rfl, hob, x0, x1, x2, x3, x4, x5⟩ := op_at (HO.out.below hC.bel (Nat.le_refl _)) k hlt
      have HSN : Hid (cpList (ops.take (k + 1)) = cpStep (cpList (ops.take k)) (ops.getD k opNone)) := Lib.hid (by rw [take_succ_getD ops k opNone hlt, cpList_snoc])
      have hlen := cpList_len (ops.take k)
      rw [List.length_take, Nat.min_eq_left hk] at hlen
      have k0 : (0 : Int) ≤ (k : Int) := by omega
      have k1 : (k : Int) < (ops.length : Int) := by omega
      generalize ops.getD k opNone = o at *
      generalize cpList (ops.take k) = S at *
      obtain ⟨f, l⟩ := S
      obtain ⟨kk, dd, aa, bb, cc, ii⟩ := o
      unfold cpStep at HSN
      simp only at x0 x1 x2 x3 x4 x5
      have hlen2 : l.length = k := hlen
      have HUS := Lib.hid (fun W => ref_Uses ⟨kk, dd, aa, bb, cc, ii⟩ W)
      have HMK := Lib.hid (fun (a b c : Int) W => ref_Makes ⟨kk, dd, a, b, c, ii⟩ W)
      have hcp0 : cpOp f ⟨kk, dd, aa, bb, cc, ii⟩ = ⟨kk, dd, if 0 < fSrc kk then cpOf f aa else aa, if 1 < fSrc kk then cpOf f bb else bb, if 2 < fSrc kk then cpOf f cc else cc, ii⟩ := rfl
      simp only at HUS HMK
      simp only at HSN
      have hOF := fun t W h => ref20_of pl f HP.out LA lc t (by omega) W h
      have HOF := Lib.hid hOF
      have hn4 : fSrc kk = 0 ∨ fSrc kk = 1 ∨ fSrc kk = 2 ∨ fSrc kk = 3 := by unfold fSrc; split <;> (try split) <;> (try split) <;> simp
      have h21 : kk = 2 → fSrc kk = 1 := fun h => by rw [h]; rfl
      generalize srcsOf ⟨kk, dd, aa, bb, cc, ii⟩ = sl at *
      generalize fSrc kk = n at *
      have HC1 := Lib.hid (HC.out.below (bnew wr (.cells #[.int .i64 kk, .int .i64 dd, .int .i64 aa, .int .i64 bb, .int .i64 cc, .int .i64 ii] 41)))
      have hX1 := heap_alloc_new wr (.cells #[.int .i64 kk, .int .i64 dd, .int .i64 aa, .int .i64 bb, .int .i64 cc, .int .i64 ii] 41)
      have HSZ : Hid (w.heap.size + 3 ≤ wr.heap.size) := Lib.hid HC.out.siz
      have HNE : Hid (ov.ownBlock ≠ some wr.heap.size) := Lib.hid (fun e => by have := (HC.out.row.lt _ e).2; omega)
      have HNL : Hid ((Value.slice LA pl.length lc).ownBlock ≠ some wr.heap.size) := Lib.hid (fun e => by have := (HC.out.prow.lt _ e).2; omega)
      clear hC hP hOF hlen
      go_upto_region 7 with (fail)
      generalize wr.alloc (.cells #[.int .i64 kk, .int .i64 dd, .int .i64 aa, .int .i64 bb, .int .i64 cc, .int .i64 ii] 41) = w1 at *
      clear x0 x1 x2 x3 x4 x5 b0 b1 b2 b3 b4
      generalize wr.heap.size = X at *
      have HX1 := Lib.hid hX1
      obtain ⟨d0, d1, d2, d3, d4, d5, _, _, _, _⟩ := op_cells_at hX1
      clear hX1
      go_wp2_with fail
      refine (HUS.out _).mono ?_
      rintro e w2 ⟨UA, uc, rfl, hb2, _⟩
      have HC2 := Lib.hid (HC1.out.below hb2)
      have HX2 := Lib.hid ((hb2.block _ (lt_of_blk HX1.out)).trans HX1.out)
      clear d0 d1 d2 d3 d4 d5 hb2
      rcases hn4 with rfl | rfl | rfl | rfl
      · have HQ : Hid (cpOp f ⟨kk, dd, aa, bb, cc, ii⟩ = ⟨kk, dd, aa, bb, cc, ii⟩) := Lib.hid (by rw [hcp0]; rfl)
        clear hcp0
        go_upto_region 14 with (fail)
        obtain ⟨QA, qc, rfl⟩ := ownN_len HC2.out.row
        have o0 := (cell_of_blk HC2.out.bO 0).1
        obtain ⟨e0, e1, e2, e3, e4, e5, _, _, _, _⟩ := op_cells_at HX2.out
        obtain ⟨VA, vc, w7, hrun, p1, p2, hC8, hK8⟩ := HC2.out.push ⟨kk, dd, aa, bb, cc, ii⟩ (by omega)
        have hX8 := hK8 HX2.out HSZ.out HNE.out
        rw [hlen2] at hrun o0 p1 hC8 hX8
        have HRUN := Lib.hid hrun
        have HC8 := Lib.hid hC8
        have HX8 := Lib.hid hX8
        clear hrun hC8 hX8 hK8
        go_upto_region 15 with (at_builtin; refine wpList_app rfl (.tmp 49) (.tmp 51) 34 rfl HRUN.out rfl rfl ?_)
        clear e0 e1 e2 e3 e4 e5 o0 p1 p2 HRUN
        generalize w7.setCell ⟨w.heap.size + 1 + 1, 0, none⟩ (.slice VA (k + 1) vc) = w8 at *
        obtain ⟨g0, g1, g2, g3, g4, g5, _, _, _, _⟩ := op_cells_at HX8.out
        go_wp2_with fail
        refine (HMK.out aa bb cc _).mono ?_
        rintro e w9 ⟨rfl, hb9⟩
        have HC9 := Lib.hid (HC8.out.below hb9)
        have HX9 := Lib.hid ((hb9.block _ (lt_of_blk HX8.out)).trans HX8.out)
        clear g0 g1 g2 g3 g4 g5 hb9
        by_cases hmk : fDst kk = true
        · rw [hmk]
          have HMP : Hid (cpMap f ⟨kk, dd, aa, bb, cc, ii⟩ = if kk = 2 ∧ aa ≠ dd then upd (cpForget f dd) dd aa else cpForget f dd) := Lib.hid (by unfold cpMap; rw [if_pos hmk])
          clear hmk
          go_wp2_with fail
          go_loopw [8, 9] (fun vr vi wr => ∃ (j : Nat) (rl : List (Int × Int)), j ≤ pl.length ∧ rl.length ≤ j ∧ vi = .int .i64 j ∧ Hid (rl = (pl.take j).filter fun x => decide (x.1 ≠ dd) && decide (x.2 ≠ dd)) ∧ Below w9.heap.size w9 wr ∧ wr.ownsRow w9.heap.size 72 2 vr rl.length (pairsCells rl)) (fun _ vi _ => pl.length - (intOf vi).toNat)
          case atStart => exact ⟨0, [], Nat.zero_le _, Nat.le_refl _, rfl, Lib.hid rfl, Below.refl _ _, World.ownsRow_nil _ _ _ _⟩
          case round =>
            obtain ⟨j, rl, hj, hrl, rfl, HRL, hB, hR⟩ := hrel
            have HB := Lib.hid hB
            have HR := Lib.hid hR
            have HS : Hid (w9.heap.size ≤ wr.heap.size) := Lib.hid hB.size
            obtain ⟨RA, rc, rfl⟩ := ownN_len hR
            have HX := Lib.hid ((hB.block _ (lt_of_blk HX9.out)).trans HX9.out)
            obtain ⟨g0, g1, g2, g3, g4, g5, _, _, _, _⟩ := op_cells_at HX.out
            by_cases hjl : j < pl.length
            · obtain ⟨pb, poff, rfl, _, u0, u1⟩ := pair_at (slRep_pairs (Nat.le_refl _) (HC9.out.below hB).prow) j hjl
              have HTS : Hid (pl.take (j + 1) = pl.take j ++ [pl.getD j (0, 0)]) := Lib.hid (take_succ_getD pl j (0, 0) hjl)
              generalize pl.getD j (0, 0) = x at *
              obtain ⟨x, y⟩ := x
              simp only at u0 u1
              have j0 : (0 : Int) ≤ (j : Int) := by omega
              have j1 : (j : Int) < (pl.length : Int) := by omega
              clear hB hR
              by_cases hx : x = dd
              · have q1 : (x != dd) = false := by rw [bne_eq_false_iff_eq]; exact hx
                have HRL2 : Hid (rl = (pl.take (j + 1)).filter fun x => decide (x.1 ≠ dd) && decide (x.2 ≠ dd)) := Lib.hid (by rw [HTS.out, List.filter_append, ← HRL.out]; simp [hx])
                clear hx
                go_wp2_with fail
                go_quiet (fail)
                go_wp2_with fail
                go_roundw
                case rel => exact ⟨j + 1, rl, by omega, by omega, by go_num, HRL2, bdrawn HB.out _, own_below HR.out (bdrawn (Below.refl _ _) _)⟩
                case measure => simp [intOf]; omega
              · have q1 : (x != dd) = true := by rw [bne_iff_ne]; exact hx
                by_cases hy : y = dd
                · have q2 : (y != dd) = false := by rw [bne_eq_false_iff_eq]; exact hy
                  have HRL2 : Hid (rl = (pl.take (j + 1)).filter fun x => decide (x.1 ≠ dd) && decide (x.2 ≠ dd)) := Lib.hid (by rw [HTS.out, List.filter_append, ← HRL.out]; simp [hy])
                  clear hx hy
                  go_wp2_with fail
                  go_quiet (fail)
                  go_wp2_with fail
                  go_roundw
                  case rel => exact ⟨j + 1, rl, by omega, by omega, by go_num, HRL2, bdrawn HB.out _, own_below HR.out (bdrawn (Below.refl _ _) _)⟩
                  case measure => simp [intOf]; omega
                · have q2 : (y != dd) = true := by rw [bne_iff_ne]; exact hy
                  have HRL2 : Hid (rl ++ [(x, y)] = (pl.take (j + 1)).filter fun x => decide (x.1 ≠ dd) && decide (x.2 ≠ dd)) := Lib.hid (by rw [HTS.out, List.filter_append, ← HRL.out]; simp [hx, hy])
                  clear hx hy
                  go_wp2_with fail
                  go_quiet (fail)
                  go_upto_region 21 with (fail)
                  have HBd := Lib.hid (bdrawn HB.out nq)
                  have HRd := Lib.hid (own_below HR.out (bdrawn (Below.refl _ _) nq))
                  have HSd : Hid (w9.heap.size ≤ (wr.drewN nq).heap.size) := Lib.hid HS.out
                  have ud0 : (wr.drewN nq).cell? ⟨pb, poff + j * 2, none⟩ = some (.int .i64 x) := u0
                  have ud1 : (wr.drewN nq).cell? ⟨pb, poff + j * 2 + 1, none⟩ = some (.int .i64 y) := u1
                  clear g0 g1 g2 g3 g4 g5 u0 u1
                  generalize wr.drewN nq = wd at *
                  obtain ⟨NA, nc, w10, hrun, q10, q11, _⟩ := pair_push HRd.out HBd.out (by omega) HSd.out x y
                  have HRUN := Lib.hid hrun
                  have HR10 := Lib.hid q10
                  have HB10 := Lib.hid q11
                  clear hrun q10 q11
                  go_wp2_with (at_builtin; refine wpList_app rfl (.tmp 81) (.tmp 86) 67 rfl HRUN.out rfl rfl ?_)
                  go_roundw
                  case rel => exact ⟨j + 1, rl ++ [(x, y)], by omega, by simp; omega, by go_num, HRL2, HB10.out, HR10.out⟩
                  case measure => simp [intOf]; omega
            · obtain rfl : j = pl.length := by omega
              rw [List.take_length] at HRL
              clear hB hR
              have hk2 : ¬ kk = 2 := fun h => by cases h21 h
              have q2 : (kk == 2) = false := by rw [beq_eq_false_iff_ne]; exact hk2
              have HSN2 : Hid (cpList (ops.take (k + 1)) = (cpForget f dd, l ++ [⟨kk, dd, aa, bb, cc, ii⟩])) := Lib.hid (by rw [HSN.out, HQ.out, HMP.out, if_neg (fun h => hk2 h.1)])
              clear hk2
              go_wp2_with fail
              go_roundw
              case rel => exact ⟨k + 1, rl, _, by omega, by omega, by go_num, by rw [HSN2.out]; exact HC9.out.swap (Nat.le_refl _) HB.out HR.out, by rw [HSN2.out, HRL.out]; exact HP.out.forget dd⟩
              case measure => simp [intOf]; omega
        · have hmk2 : fDst kk = false := by simpa using hmk
          have HSN2 : Hid (cpList (ops.take (k + 1)) = (f, l ++ [⟨kk, dd, aa, bb, cc, ii⟩])) := Lib.hid (by rw [HSN.out, HQ.out]; unfold cpMap; rw [if_neg hmk])
          rw [hmk2]
          clear hmk hmk2
          go_wp2_with fail
          go_roundw
          case rel => exact ⟨k + 1, pl, _, by omega, by omega, by go_num, by rw [HSN2.out]; exact HC9.out, by rw [HSN2.out]; exact HP.out⟩
          case measure => simp [intOf]; omega
      · have HQ : Hid (cpOp f ⟨kk, dd, aa, bb, cc, ii⟩ = ⟨kk, dd, cpOf f aa, bb, cc, ii⟩) := Lib.hid (by rw [hcp0]; rfl)
        clear hcp0
        have HF0 := Lib.hid (HOF.out aa)
        obtain ⟨c0, z0⟩ := cell_of_blk HX2.out 2
        generalize cpOf f aa = v0 at *
        go_wp2_with fail
        refine (HF0.out _ (slRep_pairs (Nat.le_refl _) HC2.out.prow)).mono ?_
        rintro e wz0 ⟨rfl, hwz⟩
        have hwz := hwz.symm
        subst hwz
        go_upto_region 10 with (fail)
        have HC3 := Lib.hid (HC2.out.setOther ⟨X, 2, none⟩ (.int .i64 v0) HSZ.out HNE.out HNL.out)
        have hx3 := blk_set HX2.out 2 (.int .i64 v0)
        clear c0 z0
        generalize w2.setCell ⟨X, 2, none⟩ (.int .i64 v0) = w3 at *
        have HX3 : Hid (w3.heap[X]? = some (.cells #[.int .i64 kk, .int .i64 dd, .int .i64 v0, .int .i64 bb, .int .i64 cc, .int .i64 ii] 41 (0, 0))) := Lib.hid hx3
        clear hx3
        go_upto_region 14 with (fail)
        obtain ⟨QA, qc, rfl⟩ := ownN_len HC3.out.row
        have o0 := (cell_of_blk HC3.out.bO 0).1
        obtain ⟨e0, e1, e2, e3, e4, e5, _, _, _, _⟩ := op_cells_at HX3.out
        obtain ⟨VA, vc, w7, hrun, p1, p2, hC8, hK8⟩ := HC3.out.push ⟨kk, dd, v0, bb, cc, ii⟩ (by omega)
        have hX8 := hK8 HX3.out HSZ.out HNE.out
        rw [hlen2] at hrun o0 p1 hC8 hX8
        have HRUN := Lib.hid hrun
        have HC8 := Lib.hid hC8
        have HX8 := Lib.hid hX8
        clear hrun hC8 hX8 hK8
        go_upto_region 15 with (at_builtin; refine wpList_app rfl (.tmp 49) (.tmp 51) 34 rfl HRUN.out rfl rfl ?_)
        clear e0 e1 e2 e3 e4 e5 o0 p1 p2 HRUN
        generalize w7.setCell ⟨w.heap.size + 1 + 1, 0, none⟩ (.slice VA (k + 1) vc) = w8 at *
        obtain ⟨g0, g1, g2, g3, g4, g5, _, _, _, _⟩ := op_cells_at HX8.out
        go_wp2_with fail
        refine (HMK.out v0 bb cc _).mono ?_
        rintro e w9 ⟨rfl, hb9⟩
        have HC9 := Lib.hid (HC8.out.below hb9)
        have HX9 := Lib.hid ((hb9.block _ (lt_of_blk HX8.out)).trans HX8.out)
        clear g0 g1 g2 g3 g4 g5 hb9
        by_cases hmk : fDst kk = true
        · rw [hmk]
          have HMP : Hid (cpMap f ⟨kk, dd, v0, bb, cc, ii⟩ = if kk = 2 ∧ v0 ≠ dd then upd (cpForget f dd) dd v0 else cpForget f dd) := Lib.hid (by unfold cpMap; rw [if_pos hmk])
          clear hmk
          go_wp2_with fail
          go_loopw [8, 9] (fun vr vi wr => ∃ (j : Nat) (rl : List (Int × Int)), j ≤ pl.length ∧ rl.length ≤ j ∧ vi = .int .i64 j ∧ Hid (rl = (pl.take j).filter fun x => decide (x.1 ≠ dd) && decide (x.2 ≠ dd)) ∧ Below w9.heap.size w9 wr ∧ wr.ownsRow w9.heap.size 72 2 vr rl.length (pairsCells rl)) (fun _ vi _ => pl.length - (intOf vi).toNat)
          case atStart => exact ⟨0, [], Nat.zero_le _, Nat.le_refl _, rfl, Lib.hid rfl, Below.refl _ _, World.ownsRow_nil _ _ _ _⟩
          case round =>
            obtain ⟨j, rl, hj, hrl, rfl, HRL, hB, hR⟩ := hrel
            have HB := Lib.hid hB
            have HR := Lib.hid hR
            have HS : Hid (w9.heap.size ≤ wr.heap.size) := Lib.hid hB.size
            obtain ⟨RA, rc, rfl⟩ := ownN_len hR
            have HX := Lib.hid ((hB.block _ (lt_of_blk HX9.out)).trans HX9.out)
            obtain ⟨g0, g1, g2, g3, g4, g5, _, _, _, _⟩ := op_cells_at HX.out
            by_cases hjl : j < pl.length
            · obtain ⟨pb, poff, rfl, _, u0, u1⟩ := pair_at (slRep_pairs (Nat.le_refl _) (HC9.out.below hB).prow) j hjl
              have HTS : Hid (pl.take (j + 1) = pl.take j ++ [pl.getD j (0, 0)]) := Lib.hid (take_succ_getD pl j (0, 0) hjl)
              generalize pl.getD j (0, 0) = x at *
              obtain ⟨x, y⟩ := x
              simp only at u0 u1
              have j0 : (0 : Int) ≤ (j : Int) := by omega
              have j1 : (j : Int) < (pl.length : Int) := by omega
              clear hB hR
              by_cases hx : x = dd
              · have q1 : (x != dd) = false := by rw [bne_eq_false_iff_eq]; exact hx
                have HRL2 : Hid (rl = (pl.take (j + 1)).filter fun x => decide (x.1 ≠ dd) && decide (x.2 ≠ dd)) := Lib.hid (by rw [HTS.out, List.filter_append, ← HRL.out]; simp [hx])
                clear hx
                go_wp2_with fail
                go_quiet (fail)
                go_wp2_with fail
                go_roundw
                case rel => exact ⟨j + 1, rl, by omega, by omega, by go_num, HRL2, bdrawn HB.out _, own_below HR.out (bdrawn (Below.refl _ _) _)⟩
                case measure => simp [intOf]; omega
              · have q1 : (x != dd) = true := by rw [bne_iff_ne]; exact hx
                by_cases hy : y = dd
                · have q2 : (y != dd) = false := by rw [bne_eq_false_iff_eq]; exact hy
                  have HRL2 : Hid (rl = (pl.take (j + 1)).filter fun x => decide (x.1 ≠ dd) && decide (x.2 ≠ dd)) := Lib.hid (by rw [HTS.out, List.filter_append, ← HRL.out]; simp [hy])
                  clear hx hy
                  go_wp2_with fail
                  go_quiet (fail)
                  go_wp2_with fail
                  go_roundw
                  case rel => exact ⟨j + 1, rl, by omega, by omega, by go_num, HRL2, bdrawn HB.out _, own_below HR.out (bdrawn (Below.refl _ _) _)⟩
                  case measure => simp [intOf]; omega
                · have q2 : (y != dd) = true := by rw [bne_iff_ne]; exact hy
                  have HRL2 : Hid (rl ++ [(x, y)] = (pl.take (j + 1)).filter fun x => decide (x.1 ≠ dd) && decide (x.2 ≠ dd)) := Lib.hid (by rw [HTS.out, List.filter_append, ← HRL.out]; simp [hx, hy])
                  clear hx hy
                  go_wp2_with fail
                  go_quiet (fail)
                  go_upto_region 21 with (fail)
                  have HBd := Lib.hid (bdrawn HB.out nq)
                  have HRd := Lib.hid (own_below HR.out (bdrawn (Below.refl _ _) nq))
                  have HSd : Hid (w9.heap.size ≤ (wr.drewN nq).heap.size) := Lib.hid HS.out
                  have ud0 : (wr.drewN nq).cell? ⟨pb, poff + j * 2, none⟩ = some (.int .i64 x) := u0
                  have ud1 : (wr.drewN nq).cell? ⟨pb, poff + j * 2 + 1, none⟩ = some (.int .i64 y) := u1
                  clear g0 g1 g2 g3 g4 g5 u0 u1
                  generalize wr.drewN nq = wd at *
                  obtain ⟨NA, nc, w10, hrun, q10, q11, _⟩ := pair_push HRd.out HBd.out (by omega) HSd.out x y
                  have HRUN := Lib.hid hrun
                  have HR10 := Lib.hid q10
                  have HB10 := Lib.hid q11
                  clear hrun q10 q11
                  go_wp2_with (at_builtin; refine wpList_app rfl (.tmp 81) (.tmp 86) 67 rfl HRUN.out rfl rfl ?_)
                  go_roundw
                  case rel => exact ⟨j + 1, rl ++ [(x, y)], by omega, by simp; omega, by go_num, HRL2, HB10.out, HR10.out⟩
                  case measure => simp [intOf]; omega
            · obtain rfl : j = pl.length := by omega
              rw [List.take_length] at HRL
              clear hB hR
              by_cases hk2 : kk = 2
              · have q2 : (kk == 2) = true := by rw [beq_iff_eq]; exact hk2
                by_cases had : v0 = dd
                · have q3 : (v0 != dd) = false := by rw [bne_eq_false_iff_eq]; exact had
                  have HSN2 : Hid (cpList (ops.take (k + 1)) = (cpForget f dd, l ++ [⟨kk, dd, v0, bb, cc, ii⟩])) := Lib.hid (by rw [HSN.out, HQ.out, HMP.out, if_neg (fun h => h.2 had)])
                  clear hk2 had
                  go_wp2_with fail
                  go_roundw
                  case rel => exact ⟨k + 1, rl, _, by omega, by omega, by go_num, by rw [HSN2.out]; exact HC9.out.swap (Nat.le_refl _) HB.out HR.out, by rw [HSN2.out, HRL.out]; exact HP.out.forget dd⟩
                  case measure => simp [intOf]; omega
                · have q3 : (v0 != dd) = true := by rw [bne_iff_ne]; exact had
                  have HSN2 : Hid (cpList (ops.take (k + 1)) = (upd (cpForget f dd) dd v0, l ++ [⟨kk, dd, v0, bb, cc, ii⟩])) := Lib.hid (by rw [HSN.out, HQ.out, HMP.out, if_pos ⟨hk2, had⟩])
                  obtain ⟨NA, nc, w10, hrun, q10, q11, _⟩ := pair_push HR.out HB.out (by omega) HS.out dd v0
                  have HRUN := Lib.hid hrun
                  have HR10 := Lib.hid q10
                  have HB10 := Lib.hid q11
                  clear hrun q10 q11 hk2 had
                  go_wp2_with (at_builtin; refine wpList_app rfl (.tmp 98) (.tmp 104) 67 rfl HRUN.out rfl rfl ?_)
                  go_roundw
                  case rel => exact ⟨k + 1, rl ++ [(dd, v0)], _, by omega, by simp; omega, by go_num, by rw [HSN2.out]; exact HC9.out.swap (Nat.le_refl _) HB10.out HR10.out, by rw [HSN2.out, HRL.out]; exact (HP.out.forget dd).put dd v0 (by unfold cpForget; rw [if_pos rfl])⟩
                  case measure => simp [intOf]; omega
              · have q2 : (kk == 2) = false := by rw [beq_eq_false_iff_ne]; exact hk2
                have HSN2 : Hid (cpList (ops.take (k + 1)) = (cpForget f dd, l ++ [⟨kk, dd, v0, bb, cc, ii⟩])) := Lib.hid (by rw [HSN.out, HQ.out, HMP.out, if_neg (fun h => hk2 h.1)])
                clear hk2
                go_wp2_with fail
                go_roundw
                case rel => exact ⟨k + 1, rl, _, by omega, by omega, by go_num, by rw [HSN2.out]; exact HC9.out.swap (Nat.le_refl _) HB.out HR.out, by rw [HSN2.out, HRL.out]; exact HP.out.forget dd⟩
                case measure => simp [intOf]; omega
        · have hmk2 : fDst kk = false := by simpa using hmk
          have HSN2 : Hid (cpList (ops.take (k + 1)) = (f, l ++ [⟨kk, dd, v0, bb, cc, ii⟩])) := Lib.hid (by rw [HSN.out, HQ.out]; unfold cpMap; rw [if_neg hmk])
          rw [hmk2]
          clear hmk hmk2
          go_wp2_with fail
          go_roundw
          case rel => exact ⟨k + 1, pl, _, by omega, by omega, by go_num, by rw [HSN2.out]; exact HC9.out, by rw [HSN2.out]; exact HP.out⟩
          case measure => simp [intOf]; omega
      · have HQ : Hid (cpOp f ⟨kk, dd, aa, bb, cc, ii⟩ = ⟨kk, dd, cpOf f aa, cpOf f bb, cc, ii⟩) := Lib.hid (by rw [hcp0]; rfl)
        clear hcp0
        have HF0 := Lib.hid (HOF.out aa)
        obtain ⟨c0, z0⟩ := cell_of_blk HX2.out 2
        generalize cpOf f aa = v0 at *
        go_wp2_with fail
        refine (HF0.out _ (slRep_pairs (Nat.le_refl _) HC2.out.prow)).mono ?_
        rintro e wz0 ⟨rfl, hwz⟩
        have hwz := hwz.symm
        subst hwz
        go_upto_region 10 with (fail)
        have HC3 := Lib.hid (HC2.out.setOther ⟨X, 2, none⟩ (.int .i64 v0) HSZ.out HNE.out HNL.out)
        have hx3 := blk_set HX2.out 2 (.int .i64 v0)
        clear c0 z0
        generalize w2.setCell ⟨X, 2, none⟩ (.int .i64 v0) = w3 at *
        have HX3 : Hid (w3.heap[X]? = some (.cells #[.int .i64 kk, .int .i64 dd, .int .i64 v0, .int .i64 bb, .int .i64 cc, .int .i64 ii] 41 (0, 0))) := Lib.hid hx3
        clear hx3
        have HF1 := Lib.hid (HOF.out bb)
        obtain ⟨c1, z1⟩ := cell_of_blk HX3.out 3
        generalize cpOf f bb = v1 at *
        go_wp2_with fail
        refine (HF1.out _ (slRep_pairs (Nat.le_refl _) HC3.out.prow)).mono ?_
        rintro e wz1 ⟨rfl, hwz⟩
        have hwz := hwz.symm
        subst hwz
        go_upto_region 12 with (fail)
        have HC4 := Lib.hid (HC3.out.setOther ⟨X, 3, none⟩ (.int .i64 v1) HSZ.out HNE.out HNL.out)
        have hx4 := blk_set HX3.out 3 (.int .i64 v1)
        clear c1 z1
        generalize w3.setCell ⟨X, 3, none⟩ (.int .i64 v1) = w4 at *
        have HX4 : Hid (w4.heap[X]? = some (.cells #[.int .i64 kk, .int .i64 dd, .int .i64 v0, .int .i64 v1, .int .i64 cc, .int .i64 ii] 41 (0, 0))) := Lib.hid hx4
        clear hx4
        go_upto_region 14 with (fail)
        obtain ⟨QA, qc, rfl⟩ := ownN_len HC4.out.row
        have o0 := (cell_of_blk HC4.out.bO 0).1
        obtain ⟨e0, e1, e2, e3, e4, e5, _, _, _, _⟩ := op_cells_at HX4.out
        obtain ⟨VA, vc, w7, hrun, p1, p2, hC8, hK8⟩ := HC4.out.push ⟨kk, dd, v0, v1, cc, ii⟩ (by omega)
        have hX8 := hK8 HX4.out HSZ.out HNE.out
        rw [hlen2] at hrun o0 p1 hC8 hX8
        have HRUN := Lib.hid hrun
        have HC8 := Lib.hid hC8
        have HX8 := Lib.hid hX8
        clear hrun hC8 hX8 hK8
        go_upto_region 15 with (at_builtin; refine wpList_app rfl (.tmp 49) (.tmp 51) 34 rfl HRUN.out rfl rfl ?_)
        clear e0 e1 e2 e3 e4 e5 o0 p1 p2 HRUN
        generalize w7.setCell ⟨w.heap.size + 1 + 1, 0, none⟩ (.slice VA (k + 1) vc) = w8 at *
        obtain ⟨g0, g1, g2, g3, g4, g5, _, _, _, _⟩ := op_cells_at HX8.out
        go_wp2_with fail
        refine (HMK.out v0 v1 cc _).mono ?_
        rintro e w9 ⟨rfl, hb9⟩
        have HC9 := Lib.hid (HC8.out.below hb9)
        have HX9 := Lib.hid ((hb9.block _ (lt_of_blk HX8.out)).trans HX8.out)
        clear g0 g1 g2 g3 g4 g5 hb9
        by_cases hmk : fDst kk = true
        · rw [hmk]
          have HMP : Hid (cpMap f ⟨kk, dd, v0, v1, cc, ii⟩ = if kk = 2 ∧ v0 ≠ dd then upd (cpForget f dd) dd v0 else cpForget f dd) := Lib.hid (by unfold cpMap; rw [if_pos hmk])
          clear hmk
          go_wp2_with fail
          go_loopw [8, 9] (fun vr vi wr => ∃ (j : Nat) (rl : List (Int × Int)), j ≤ pl.length ∧ rl.length ≤ j ∧ vi = .int .i64 j ∧ Hid (rl = (pl.take j).filter fun x => decide (x.1 ≠ dd) && decide (x.2 ≠ dd)) ∧ Below w9.heap.size w9 wr ∧ wr.ownsRow w9.heap.size 72 2 vr rl.length (pairsCells rl)) (fun _ vi _ => pl.length - (intOf vi).toNat)
          case atStart => exact ⟨0, [], Nat.zero_le _, Nat.le_refl _, rfl, Lib.hid rfl, Below.refl _ _, World.ownsRow_nil _ _ _ _⟩
          case round =>
            obtain ⟨j, rl, hj, hrl, rfl, HRL, hB, hR⟩ := hrel
            have HB := Lib.hid hB
            have HR := Lib.hid hR
            have HS : Hid (w9.heap.size ≤ wr.heap.size) := Lib.hid hB.size
            obtain ⟨RA, rc, rfl⟩ := ownN_len hR
            have HX := Lib.hid ((hB.block _ (lt_of_blk HX9.out)).trans HX9.out)
            obtain ⟨g0, g1, g2, g3, g4, g5, _, _, _, _⟩ := op_cells_at HX.out
            by_cases hjl : j < pl.length
            · obtain ⟨pb, poff, rfl, _, u0, u1⟩ := pair_at (slRep_pairs (Nat.le_refl _) (HC9.out.below hB).prow) j hjl
              have HTS : Hid (pl.take (j + 1) = pl.take j ++ [pl.getD j (0, 0)]) := Lib.hid (take_succ_getD pl j (0, 0) hjl)
              generalize pl.getD j (0, 0) = x at *
              obtain ⟨x, y⟩ := x
              simp only at u0 u1
              have j0 : (0 : Int) ≤ (j : Int) := by omega
              have j1 : (j : Int) < (pl.length : Int) := by omega
              clear hB hR
              by_cases hx : x = dd
              · have q1 : (x != dd) = false := by rw [bne_eq_false_iff_eq]; exact hx
                have HRL2 : Hid (rl = (pl.take (j + 1)).filter fun x => decide (x.1 ≠ dd) && decide (x.2 ≠ dd)) := Lib.hid (by rw [HTS.out, List.filter_append, ← HRL.out]; simp [hx])
                clear hx
                go_wp2_with fail
                go_quiet (fail)
                go_wp2_with fail
                go_roundw
                case rel => exact ⟨j + 1, rl, by omega, by omega, by go_num, HRL2, bdrawn HB.out _, own_below HR.out (bdrawn (Below.refl _ _) _)⟩
                case measure => simp [intOf]; omega
              · have q1 : (x != dd) = true := by rw [bne_iff_ne]; exact hx
                by_cases hy : y = dd
                · have q2 : (y != dd) = false := by rw [bne_eq_false_iff_eq]; exact hy
                  have HRL2 : Hid (rl = (pl.take (j + 1)).filter fun x => decide (x.1 ≠ dd) && decide (x.2 ≠ dd)) := Lib.hid (by rw [HTS.out, List.filter_append, ← HRL.out]; simp [hy])
                  clear hx hy
                  go_wp2_with fail
                  go_quiet (fail)
                  go_wp2_with fail
                  go_roundw
                  case rel => exact ⟨j + 1, rl, by omega, by omega, by go_num, HRL2, bdrawn HB.out _, own_below HR.out (bdrawn (Below.refl _ _) _)⟩
                  case measure => simp [intOf]; omega
                · have q2 : (y != dd) = true := by rw [bne_iff_ne]; exact hy
                  have HRL2 : Hid (rl ++ [(x, y)] = (pl.take (j + 1)).filter fun x => decide (x.1 ≠ dd) && decide (x.2 ≠ dd)) := Lib.hid (by rw [HTS.out, List.filter_append, ← HRL.out]; simp [hx, hy])
                  clear hx hy
                  go_wp2_with fail
                  go_quiet (fail)
                  go_upto_region 21 with (fail)
                  have HBd := Lib.hid (bdrawn HB.out nq)
                  have HRd := Lib.hid (own_below HR.out (bdrawn (Below.refl _ _) nq))
                  have HSd : Hid (w9.heap.size ≤ (wr.drewN nq).heap.size) := Lib.hid HS.out
                  have ud0 : (wr.drewN nq).cell? ⟨pb, poff + j * 2, none⟩ = some (.int .i64 x) := u0
                  have ud1 : (wr.drewN nq).cell? ⟨pb, poff + j * 2 + 1, none⟩ = some (.int .i64 y) := u1
                  clear g0 g1 g2 g3 g4 g5 u0 u1
                  generalize wr.drewN nq = wd at *
                  obtain ⟨NA, nc, w10, hrun, q10, q11, _⟩ := pair_push HRd.out HBd.out (by omega) HSd.out x y
                  have HRUN := Lib.hid hrun
                  have HR10 := Lib.hid q10
                  have HB10 := Lib.hid q11
                  clear hrun q10 q11
                  go_wp2_with (at_builtin; refine wpList_app rfl (.tmp 81) (.tmp 86) 67 rfl HRUN.out rfl rfl ?_)
                  go_roundw
                  case rel => exact ⟨j + 1, rl ++ [(x, y)], by omega, by simp; omega, by go_num, HRL2, HB10.out, HR10.out⟩
                  case measure => simp [intOf]; omega
            · obtain rfl : j = pl.length := by omega
              rw [List.take_length] at HRL
              clear hB hR
              have hk2 : ¬ kk = 2 := fun h => by cases h21 h
              have q2 : (kk == 2) = false := by rw [beq_eq_false_iff_ne]; exact hk2
              have HSN2 : Hid (cpList (ops.take (k + 1)) = (cpForget f dd, l ++ [⟨kk, dd, v0, v1, cc, ii⟩])) := Lib.hid (by rw [HSN.out, HQ.out, HMP.out, if_neg (fun h => hk2 h.1)])
              clear hk2
              go_wp2_with fail
              go_roundw
              case rel => exact ⟨k + 1, rl, _, by omega, by omega, by go_num, by rw [HSN2.out]; exact HC9.out.swap (Nat.le_refl _) HB.out HR.out, by rw [HSN2.out, HRL.out]; exact HP.out.forget dd⟩
              case measure => simp [intOf]; omega
        · have hmk2 : fDst kk = false := by simpa using hmk
          have HSN2 : Hid (cpList (ops.take (k + 1)) = (f, l ++ [⟨kk, dd, v0, v1, cc, ii⟩])) := Lib.hid (by rw [HSN.out, HQ.out]; unfold cpMap; rw [if_neg hmk])
          rw [hmk2]
          clear hmk hmk2
          go_wp2_with fail
          go_roundw
          case rel => exact ⟨k + 1, pl, _, by omega, by omega, by go_num, by rw [HSN2.out]; exact HC9.out, by rw [HSN2.out]; exact HP.out⟩
          case measure => simp [intOf]; omega
      · have HQ : Hid (cpOp f ⟨kk, dd, aa, bb, cc, ii⟩ = ⟨kk, dd, cpOf f aa, cpOf f bb, cpOf f cc, ii⟩) := Lib.hid (by rw [hcp0]; rfl)
        clear hcp0
        have HF0 := Lib.hid (HOF.out aa)
        obtain ⟨c0, z0⟩ := cell_of_blk HX2.out 2
        generalize cpOf f aa = v0 at *
        go_wp2_with fail
        refine (HF0.out _ (slRep_pairs (Nat.le_refl _) HC2.out.prow)).mono ?_
        rintro e wz0 ⟨rfl, hwz⟩
        have hwz := hwz.symm
        subst hwz
        go_upto_region 10 with (fail)
        have HC3 := Lib.hid (HC2.out.setOther ⟨X, 2, none⟩ (.int .i64 v0) HSZ.out HNE.out HNL.out)
        have hx3 := blk_set HX2.out 2 (.int .i64 v0)
        clear c0 z0
        generalize w2.setCell ⟨X, 2, none⟩ (.int .i64 v0) = w3 at *
        have HX3 : Hid (w3.heap[X]? = some (.cells #[.int .i64 kk, .int .i64 dd, .int .i64 v0, .int .i64 bb, .int .i64 cc, .int .i64 ii] 41 (0, 0))) := Lib.hid hx3
        clear hx3
        have HF1 := Lib.hid (HOF.out bb)
        obtain ⟨c1, z1⟩ := cell_of_blk HX3.out 3
        generalize cpOf f bb = v1 at *
        go_wp2_with fail
        refine (HF1.out _ (slRep_pairs (Nat.le_refl _) HC3.out.prow)).mono ?_
        rintro e wz1 ⟨rfl, hwz⟩
        have hwz := hwz.symm
        subst hwz
        go_upto_region 12 with (fail)
        have HC4 := Lib.hid (HC3.out.setOther ⟨X, 3, none⟩ (.int .i64 v1) HSZ.out HNE.out HNL.out)
        have hx4 := blk_set HX3.out 3 (.int .i64 v1)
        clear c1 z1
        generalize w3.setCell ⟨X, 3, none⟩ (.int .i64 v1) = w4 at *
        have HX4 : Hid (w4.heap[X]? = some (.cells #[.int .i64 kk, .int .i64 dd, .int .i64 v0, .int .i64 v1, .int .i64 cc, .int .i64 ii] 41 (0, 0))) := Lib.hid hx4
        clear hx4
        have HF2 := Lib.hid (HOF.out cc)
        obtain ⟨c2, z2⟩ := cell_of_blk HX4.out 4
        generalize cpOf f cc = v2 at *
        go_wp2_with fail
        refine (HF2.out _ (slRep_pairs (Nat.le_refl _) HC4.out.prow)).mono ?_
        rintro e wz2 ⟨rfl, hwz⟩
        have hwz := hwz.symm
        subst hwz
        go_upto_region 14 with (fail)
        have HC5 := Lib.hid (HC4.out.setOther ⟨X, 4, none⟩ (.int .i64 v2) HSZ.out HNE.out HNL.out)
        have hx5 := blk_set HX4.out 4 (.int .i64 v2)
        clear c2 z2
        generalize w4.setCell ⟨X, 4, none⟩ (.int .i64 v2) = w5 at *
        have HX5 : Hid (w5.heap[X]? = some (.cells #[.int .i64 kk, .int .i64 dd, .int .i64 v0, .int .i64 v1, .int .i64 v2, .int .i64 ii] 41 (0, 0))) := Lib.hid hx5
        clear hx5
        obtain ⟨QA, qc, rfl⟩ := ownN_len HC5.out.row
        have o0 := (cell_of_blk HC5.out.bO 0).1
        obtain ⟨e0, e1, e2, e3, e4, e5, _, _, _, _⟩ := op_cells_at HX5.out
        obtain ⟨VA, vc, w7, hrun, p1, p2, hC8, hK8⟩ := HC5.out.push ⟨kk, dd, v0, v1, v2, ii⟩ (by omega)
        have hX8 := hK8 HX5.out HSZ.out HNE.out
        rw [hlen2] at hrun o0 p1 hC8 hX8
        have HRUN := Lib.hid hrun
        have HC8 := Lib.hid hC8
        have HX8 := Lib.hid hX8
        clear hrun hC8 hX8 hK8
        go_upto_region 15 with (at_builtin; refine wpList_app rfl (.tmp 49) (.tmp 51) 34 rfl HRUN.out rfl rfl ?_)
        clear e0 e1 e2 e3 e4 e5 o0 p1 p2 HRUN
        generalize w7.setCell ⟨w.heap.size + 1 + 1, 0, none⟩ (.slice VA (k + 1) vc) = w8 at *
        obtain ⟨g0, g1, g2, g3, g4, g5, _, _, _, _⟩ := op_cells_at HX8.out
        go_wp2_with fail
        refine (HMK.out v0 v1 v2 _).mono ?_
        rintro e w9 ⟨rfl, hb9⟩
        have HC9 := Lib.hid (HC8.out.below hb9)
        have HX9 := Lib.hid ((hb9.block _ (lt_of_blk HX8.out)).trans HX8.out)
        clear g0 g1 g2 g3 g4 g5 hb9
        by_cases hmk : fDst kk = true
        · rw [hmk]
          have HMP : Hid (cpMap f ⟨kk, dd, v0, v1, v2, ii⟩ = if kk = 2 ∧ v0 ≠ dd then upd (cpForget f dd) dd v0 else cpForget f dd) := Lib.hid (by unfold cpMap; rw [if_pos hmk])
          clear hmk
          go_wp2_with fail
          go_loopw [8, 9] (fun vr vi wr => ∃ (j : Nat) (rl : List (Int × Int)), j ≤ pl.length ∧ rl.length ≤ j ∧ vi = .int .i64 j ∧ Hid (rl = (pl.take j).filter fun x => decide (x.1 ≠ dd) && decide (x.2 ≠ dd)) ∧ Below w9.heap.size w9 wr ∧ wr.ownsRow w9.heap.size 72 2 vr rl.length (pairsCells rl)) (fun _ vi _ => pl.length - (intOf vi).toNat)
          case atStart => exact ⟨0, [], Nat.zero_le _, Nat.le_refl _, rfl, Lib.hid rfl, Below.refl _ _, World.ownsRow_nil _ _ _ _⟩
          case round =>
            obtain ⟨j, rl, hj, hrl, rfl, HRL, hB, hR⟩ := hrel
            have HB := Lib.hid hB
            have HR := Lib.hid hR
            have HS : Hid (w9.heap.size ≤ wr.heap.size) := Lib.hid hB.size
            obtain ⟨RA, rc, rfl⟩ := ownN_len hR
            have HX := Lib.hid ((hB.block _ (lt_of_blk HX9.out)).trans HX9.out)
            obtain ⟨g0, g1, g2, g3, g4, g5, _, _, _, _⟩ := op_cells_at HX.out
            by_cases hjl : j < pl.length
            · obtain ⟨pb, poff, rfl, _, u0, u1⟩ := pair_at (slRep_pairs (Nat.le_refl _) (HC9.out.below hB).prow) j hjl
              have HTS : Hid (pl.take (j + 1) = pl.take j ++ [pl.getD j (0, 0)]) := Lib.hid (take_succ_getD pl j (0, 0) hjl)
              generalize pl.getD j (0, 0) = x at *
              obtain ⟨x, y⟩ := x
              simp only at u0 u1
              have j0 : (0 : Int) ≤ (j : Int) := by omega
              have j1 : (j : Int) < (pl.length : Int) := by omega
              clear hB hR
              by_cases hx : x = dd
              · have q1 : (x != dd) = false := by rw [bne_eq_false_iff_eq]; exact hx
                have HRL2 : Hid (rl = (pl.take (j + 1)).filter fun x => decide (x.1 ≠ dd) && decide (x.2 ≠ dd)) := Lib.hid (by rw [HTS.out, List.filter_append, ← HRL.out]; simp [hx])
                clear hx
                go_wp2_with fail
                go_quiet (fail)
                go_wp2_with fail
                go_roundw
                case rel => exact ⟨j + 1, rl, by omega, by omega, by go_num, HRL2, bdrawn HB.out _, own_below HR.out (bdrawn (Below.refl _ _) _)⟩
                case measure => simp [intOf]; omega
              · have q1 : (x != dd) = true := by rw [bne_iff_ne]; exact hx
                by_cases hy : y = dd
                · have q2 : (y != dd) = false := by rw [bne_eq_false_iff_eq]; exact hy
                  have HRL2 : Hid (rl = (pl.take (j + 1)).filter fun x => decide (x.1 ≠ dd) && decide (x.2 ≠ dd)) := Lib.hid (by rw [HTS.out, List.filter_append, ← HRL.out]; simp [hy])
                  clear hx hy
                  go_wp2_with fail
                  go_quiet (fail)
                  go_wp2_with fail
                  go_roundw
                  case rel => exact ⟨j + 1, rl, by omega, by omega, by go_num, HRL2, bdrawn HB.out _, own_below HR.out (bdrawn (Below.refl _ _) _)⟩
                  case measure => simp [intOf]; omega
                · have q2 : (y != dd) = true := by rw [bne_iff_ne]; exact hy
                  have HRL2 : Hid (rl ++ [(x, y)] = (pl.take (j + 1)).filter fun x => decide (x.1 ≠ dd) && decide (x.2 ≠ dd)) := Lib.hid (by rw [HTS.out, List.filter_append, ← HRL.out]; simp [hx, hy])
                  clear hx hy
                  go_wp2_with fail
                  go_quiet (fail)
                  go_upto_region 21 with (fail)
                  have HBd := Lib.hid (bdrawn HB.out nq)
                  have HRd := Lib.hid (own_below HR.out (bdrawn (Below.refl _ _) nq))
                  have HSd : Hid (w9.heap.size ≤ (wr.drewN nq).heap.size) := Lib.hid HS.out
                  have ud0 : (wr.drewN nq).cell? ⟨pb, poff + j * 2, none⟩ = some (.int .i64 x) := u0
                  have ud1 : (wr.drewN nq).cell? ⟨pb, poff + j * 2 + 1, none⟩ = some (.int .i64 y) := u1
                  clear g0 g1 g2 g3 g4 g5 u0 u1
                  generalize wr.drewN nq = wd at *
                  obtain ⟨NA, nc, w10, hrun, q10, q11, _⟩ := pair_push HRd.out HBd.out (by omega) HSd.out x y
                  have HRUN := Lib.hid hrun
                  have HR10 := Lib.hid q10
                  have HB10 := Lib.hid q11
                  clear hrun q10 q11
                  go_wp2_with (at_builtin; refine wpList_app rfl (.tmp 81) (.tmp 86) 67 rfl HRUN.out rfl rfl ?_)
                  go_roundw
                  case rel => exact ⟨j + 1, rl ++ [(x, y)], by omega, by simp; omega, by go_num, HRL2, HB10.out, HR10.out⟩
                  case measure => simp [intOf]; omega
            · obtain rfl : j = pl.length := by omega
              rw [List.take_length] at HRL
              clear hB hR
              have hk2 : ¬ kk = 2 := fun h => by cases h21 h
              have q2 : (kk == 2) = false := by rw [beq_eq_false_iff_ne]; exact hk2
              have HSN2 : Hid (cpList (ops.take (k + 1)) = (cpForget f dd, l ++ [⟨kk, dd, v0, v1, v2, ii⟩])) := Lib.hid (by rw [HSN.out, HQ.out, HMP.out, if_neg (fun h => hk2 h.1)])
              clear hk2
              go_wp2_with fail
              go_roundw
              case rel => exact ⟨k + 1, rl, _, by omega, by omega, by go_num, by rw [HSN2.out]; exact HC9.out.swap (Nat.le_refl _) HB.out HR.out, by rw [HSN2.out, HRL.out]; exact HP.out.forget dd⟩
              case measure => simp [intOf]; omega
        · have hmk2 : fDst kk = false := by simpa using hmk
          have HSN2 : Hid (cpList (ops.take (k + 1)) = (f, l ++ [⟨kk, dd, v0, v1, v2, ii⟩])) := Lib.hid (by rw [HSN.out, HQ.out]; unfold cpMap; rw [if_neg hmk])
          rw [hmk2]
          clear hmk hmk2
          go_wp2_with fail
          go_roundw
          case rel => exact ⟨k + 1, pl, _, by omega, by omega, by go_num, by rw [HSN2.out]; exact HC9.out, by rw [HSN2.out]; exact HP.out⟩
          case measure => simp [intOf]; omega
    · obtain rfl : k = ops.length := by omega
      have hlen := cpList_len ops
      rw [List.take_length] at hC hP
      clear HC HP
      generalize cpList ops = S at *
      obtain ⟨f, l⟩ := S
      have hpl := HPL.out f l rfl
      rw [hpl] at HPO
      have hlen : l.length = ops.length := hlen
      obtain ⟨QA, qc, rfl⟩ := ownN_len hC.row
      have hC : RbAt w w.heap.size wr #[.slice OA ops.length oc, .int .i64 tk, .int .i64 ta, .int .i64 ty, .int .i64 tn] (.slice QA l.length qc) (.slice LA pl.length lc) l pl := hC
      have HP := Lib.hid hP
      have HC := Lib.hid hC
      obtain ⟨x0, x1, x2, x3, x4, _, _⟩ := blk_cells_at hC.bX
      obtain ⟨y1, t1⟩ := cell_of_blk hC.bO 1
      obtain ⟨y2, t2⟩ := cell_of_blk hC.bO 2
      obtain ⟨y3, t3⟩ := cell_of_blk hC.bO 3
      obtain ⟨y4, t4⟩ := cell_of_blk hC.bO 4
      clear hC hpl hP
      go_upto_region 26 with (fail)
      have hO5 := blk_set (blk_set (blk_set (blk_set HC.out.bO 1 (.int .i64 tk)) 2 (.int .i64 ta)) 3 (.int .i64 ty)) 4 (.int .i64 tn)
      have hX5 := blk_far (blk_far (blk_far (blk_far HC.out.bX ⟨w.heap.size + 1 + 1, 1, none⟩ (.int .i64 tk) (by show w.heap.size + 1 + 1 ≠ w.heap.size; omega)) ⟨w.heap.size + 1 + 1, 2, none⟩ (.int .i64 ta) (by show w.heap.size + 1 + 1 ≠ w.heap.size; omega)) ⟨w.heap.size + 1 + 1, 3, none⟩ (.int .i64 ty) (by show w.heap.size + 1 + 1 ≠ w.heap.size; omega)) ⟨w.heap.size + 1 + 1, 4, none⟩ (.int .i64 tn) (by show w.heap.size + 1 + 1 ≠ w.heap.size; omega)
      have hR5 := blk_far (blk_far (blk_far (blk_far HC.out.bR ⟨w.heap.size + 1 + 1, 1, none⟩ (.int .i64 tk) (by show w.heap.size + 1 + 1 ≠ w.heap.size + 1; omega)) ⟨w.heap.size + 1 + 1, 2, none⟩ (.int .i64 ta) (by show w.heap.size + 1 + 1 ≠ w.heap.size + 1; omega)) ⟨w.heap.size + 1 + 1, 3, none⟩ (.int .i64 ty) (by show w.heap.size + 1 + 1 ≠ w.heap.size + 1; omega)) ⟨w.heap.size + 1 + 1, 4, none⟩ (.int .i64 tn) (by show w.heap.size + 1 + 1 ≠ w.heap.size + 1; omega)
      have hM5 := own_setCell (own_setCell (own_setCell (own_setCell HC.out.prow ⟨w.heap.size + 1 + 1, 1, none⟩ (.int .i64 tk) (by show w.heap.size + 1 + 1 < w.heap.size + 3; omega)) ⟨w.heap.size + 1 + 1, 2, none⟩ (.int .i64 ta) (by show w.heap.size + 1 + 1 < w.heap.size + 3; omega)) ⟨w.heap.size + 1 + 1, 3, none⟩ (.int .i64 ty) (by show w.heap.size + 1 + 1 < w.heap.size + 3; omega)) ⟨w.heap.size + 1 + 1, 4, none⟩ (.int .i64 tn) (by show w.heap.size + 1 + 1 < w.heap.size + 3; omega)
      have hW5 := own_setCell (own_setCell (own_setCell (own_setCell HC.out.row ⟨w.heap.size + 1 + 1, 1, none⟩ (.int .i64 tk) (by show w.heap.size + 1 + 1 < w.heap.size + 3; omega)) ⟨w.heap.size + 1 + 1, 2, none⟩ (.int .i64 ta) (by show w.heap.size + 1 + 1 < w.heap.size + 3; omega)) ⟨w.heap.size + 1 + 1, 3, none⟩ (.int .i64 ty) (by show w.heap.size + 1 + 1 < w.heap.size + 3; omega)) ⟨w.heap.size + 1 + 1, 4, none⟩ (.int .i64 tn) (by show w.heap.size + 1 + 1 < w.heap.size + 3; omega)
      have hB5 := (((HC.out.bel.setCell (p := ⟨w.heap.size + 1 + 1, 1, none⟩) (by show w.heap.size ≤ w.heap.size + 1 + 1; omega) (.int .i64 tk)).setCell (p := ⟨w.heap.size + 1 + 1, 2, none⟩) (by show w.heap.size ≤ w.heap.size + 1 + 1; omega) (.int .i64 ta)).setCell (p := ⟨w.heap.size + 1 + 1, 3, none⟩) (by show w.heap.size ≤ w.heap.size + 1 + 1; omega) (.int .i64 ty)).setCell (p := ⟨w.heap.size + 1 + 1, 4, none⟩) (by show w.heap.size ≤ w.heap.size + 1 + 1; omega) (.int .i64 tn)
      clear x0 x1 x2 x3 x4 y1 y2 y3 y4 t1 t2 t3 t4
      generalize (((wr.setCell ⟨w.heap.size + 1 + 1, 1, none⟩ (.int .i64 tk)).setCell ⟨w.heap.size + 1 + 1, 2, none⟩ (.int .i64 ta)).setCell ⟨w.heap.size + 1 + 1, 3, none⟩ (.int .i64 ty)).setCell ⟨w.heap.size + 1 + 1, 4, none⟩ (.int .i64 tn) = w5 at *
      have HW5 := Lib.hid hW5
      have HR5 := Lib.hid hR5
      have HB5 := Lib.hid hB5
      have HM5 := Lib.hid hM5
      clear hM5 hW5 hR5 hB5
      by_cases hk2 : tk = 2
      · have q2 : (tk == 2) = true := by rw [beq_iff_eq]; exact hk2
        rw [if_pos hk2] at HPO
        obtain ⟨x0, x1, x2, x3, x4, _, _⟩ := blk_cells_at hX5
        obtain ⟨y2, t2⟩ := cell_of_blk hO5 2
        have HO5 := Lib.hid hO5
        clear hX5 hO5 hk2
        go_wp2_with fail
        refine (ref20_of pl f HP.out LA lc ta (by omega) _ (slRep_pairs (Nat.le_refl _) HM5.out)).mono ?_
        rintro e w6 ⟨rfl, hwz⟩
        have hwz := hwz.symm
        subst hwz
        go_upto_region 28 with (fail)
        have hO6 := blk_set HO5.out 2 (.int .i64 (cpOf f ta))
        have hR6 := blk_far HR5.out ⟨w.heap.size + 1 + 1, 2, none⟩ (.int .i64 (cpOf f ta)) (by show w.heap.size + 1 + 1 ≠ w.heap.size + 1; omega)
        have hW6 := own_setCell HW5.out ⟨w.heap.size + 1 + 1, 2, none⟩ (.int .i64 (cpOf f ta)) (by show w.heap.size + 1 + 1 < w.heap.size + 3; omega)
        have hB6 := HB5.out.setCell (p := ⟨w.heap.size + 1 + 1, 2, none⟩) (by show w.heap.size ≤ w.heap.size + 1 + 1; omega) (.int .i64 (cpOf f ta))
        clear x0 x1 x2 x3 x4 y2 t2
        generalize w5.setCell ⟨w.heap.size + 1 + 1, 2, none⟩ (.int .i64 (cpOf f ta)) = w6 at *
        generalize cpOf f ta = tb at *
        have HW6 := Lib.hid hW6
        have HR6 := Lib.hid hR6
        have HB6 := Lib.hid hB6
        obtain ⟨y0, y1, y2, y3, y4, _, _⟩ := blk_cells_at hO6
        unfold zBlk at hR6 HR6
        obtain ⟨r0, s0⟩ := cell_of_blk hR6 0
        obtain ⟨r1, s1⟩ := cell_of_blk hR6 1
        obtain ⟨r2, s2⟩ := cell_of_blk hR6 2
        obtain ⟨r3, s3⟩ := cell_of_blk hR6 3
        obtain ⟨r4, s4⟩ := cell_of_blk hR6 4
        clear hW6 hR6 hB6 hO6
        go_wp2_with fail
        have hr7 := blk_set (blk_set (blk_set (blk_set (blk_set HR6.out 0 (.slice QA ops.length qc)) 1 (.int .i64 tk)) 2 (.int .i64 tb)) 3 (.int .i64 ty)) 4 (.int .i64 tn)
        have hB7 := ((((HB6.out.setCell (p := ⟨w.heap.size + 1, 0, none⟩) (by show w.heap.size ≤ w.heap.size + 1; omega) (.slice QA ops.length qc)).setCell (p := ⟨w.heap.size + 1, 1, none⟩) (by show w.heap.size ≤ w.heap.size + 1; omega) (.int .i64 tk)).setCell (p := ⟨w.heap.size + 1, 2, none⟩) (by show w.heap.size ≤ w.heap.size + 1; omega) (.int .i64 tb)).setCell (p := ⟨w.heap.size + 1, 3, none⟩) (by show w.heap.size ≤ w.heap.size + 1; omega) (.int .i64 ty)).setCell (p := ⟨w.heap.size + 1, 4, none⟩) (by show w.heap.size ≤ w.heap.size + 1; omega) (.int .i64 tn)
        have hlo : w.heap.size + 1 < w.heap.size + 3 := by omega
        have hW7 := own_setCell (own_setCell (own_setCell (own_setCell (own_setCell HW6.out ⟨w.heap.size + 1, 0, none⟩ (.slice QA ops.length qc) hlo) ⟨w.heap.size + 1, 1, none⟩ (.int .i64 tk) hlo) ⟨w.heap.size + 1, 2, none⟩ (.int .i64 tb) hlo) ⟨w.heap.size + 1, 3, none⟩ (.int .i64 ty) hlo) ⟨w.heap.size + 1, 4, none⟩ (.int .i64 tn) hlo
        generalize ((((w6.setCell ⟨w.heap.size + 1, 0, none⟩ (.slice QA ops.length qc)).setCell ⟨w.heap.size + 1, 1, none⟩ (.int .i64 tk)).setCell ⟨w.heap.size + 1, 2, none⟩ (.int .i64 tb)).setCell ⟨w.heap.size + 1, 3, none⟩ (.int .i64 ty)).setCell ⟨w.heap.size + 1, 4, none⟩ (.int .i64 tn) = w7 at *
        have k0 : w7.cell? ⟨w.heap.size + 1, 0, none⟩ = some (.slice QA ops.length qc) := (cell_of_blk hr7 0).1
        have k1 : w7.cell? ⟨w.heap.size + 1, 1, none⟩ = some (.int .i64 tk) := (cell_of_blk hr7 1).1
        have k2 : w7.cell? ⟨w.heap.size + 1, 2, none⟩ = some (.int .i64 tb) := (cell_of_blk hr7 2).1
        have k3 : w7.cell? ⟨w.heap.size + 1, 3, none⟩ = some (.int .i64 ty) := (cell_of_blk hr7 3).1
        have k4 : w7.cell? ⟨w.heap.size + 1, 4, none⟩ = some (.int .i64 tn) := (cell_of_blk hr7 4).1
        clear hr7 r0 r1 r2 r3 r4 s0 s1 s2 s3 s4 y0 y1 y2 y3 y4
        refine bodyPost_ret (v := .agg #[.slice QA ops.length qc, .int .i64 tk, .int .i64 tb, .int .i64 ty, .int .i64 tn]) (by simp [results, Try.results18, go_sem, k0, k1, k2, k3, k4]; try rfl) rfl ?_
        rw [← HPO.out]
        refine ⟨QA, qc, ?_, own_more hW7 (by omega), hB7⟩
        show _ = Ending.returned (.agg #[.slice QA l.length qc, .int .i64 tk, .int .i64 tb, .int .i64 ty, .int .i64 tn])
        rw [hlen]
      · have q2 : (tk == 2) = false := by rw [beq_eq_false_iff_ne]; exact hk2
        rw [if_neg hk2] at HPO
        obtain ⟨x0, x1, x2, x3, x4, _, _⟩ := blk_cells_at hX5
        have HO5 := Lib.hid hO5
        clear hX5 hO5 hk2
        go_upto_region 28 with (fail)
        have hO6 := HO5.out
        have hR6 := HR5.out
        have HW6 := HW5
        have HB6 := HB5
        clear x0 x1 x2 x3 x4
        unfold zBlk at hR6
        have HR6 := Lib.hid hR6
        obtain ⟨y0, y1, y2, y3, y4, _, _⟩ := blk_cells_at hO6
        obtain ⟨r0, s0⟩ := cell_of_blk hR6 0
        obtain ⟨r1, s1⟩ := cell_of_blk hR6 1
        obtain ⟨r2, s2⟩ := cell_of_blk hR6 2
        obtain ⟨r3, s3⟩ := cell_of_blk hR6 3
        obtain ⟨r4, s4⟩ := cell_of_blk hR6 4
        clear hR6 hO6
        go_wp2_with fail
        have hr7 := blk_set (blk_set (blk_set (blk_set (blk_set HR6.out 0 (.slice QA ops.length qc)) 1 (.int .i64 tk)) 2 (.int .i64 ta)) 3 (.int .i64 ty)) 4 (.int .i64 tn)
        have hB7 := ((((HB6.out.setCell (p := ⟨w.heap.size + 1, 0, none⟩) (by show w.heap.size ≤ w.heap.size + 1; omega) (.slice QA ops.length qc)).setCell (p := ⟨w.heap.size + 1, 1, none⟩) (by show w.heap.size ≤ w.heap.size + 1; omega) (.int .i64 tk)).setCell (p := ⟨w.heap.size + 1, 2, none⟩) (by show w.heap.size ≤ w.heap.size + 1; omega) (.int .i64 ta)).setCell (p := ⟨w.heap.size + 1, 3, none⟩) (by show w.heap.size ≤ w.heap.size + 1; omega) (.int .i64 ty)).setCell (p := ⟨w.heap.size + 1, 4, none⟩) (by show w.heap.size ≤ w.heap.size + 1; omega) (.int .i64 tn)
        have hlo : w.heap.size + 1 < w.heap.size + 3 := by omega
        have hW7 := own_setCell (own_setCell (own_setCell (own_setCell (own_setCell HW6.out ⟨w.heap.size + 1, 0, none⟩ (.slice QA ops.length qc) hlo) ⟨w.heap.size + 1, 1, none⟩ (.int .i64 tk) hlo) ⟨w.heap.size + 1, 2, none⟩ (.int .i64 ta) hlo) ⟨w.heap.size + 1, 3, none⟩ (.int .i64 ty) hlo) ⟨w.heap.size + 1, 4, none⟩ (.int .i64 tn) hlo
        generalize ((((w5.setCell ⟨w.heap.size + 1, 0, none⟩ (.slice QA ops.length qc)).setCell ⟨w.heap.size + 1, 1, none⟩ (.int .i64 tk)).setCell ⟨w.heap.size + 1, 2, none⟩ (.int .i64 ta)).setCell ⟨w.heap.size + 1, 3, none⟩ (.int .i64 ty)).setCell ⟨w.heap.size + 1, 4, none⟩ (.int .i64 tn) = w7 at *
        have k0 : w7.cell? ⟨w.heap.size + 1, 0, none⟩ = some (.slice QA ops.length qc) := (cell_of_blk hr7 0).1
        have k1 : w7.cell? ⟨w.heap.size + 1, 1, none⟩ = some (.int .i64 tk) := (cell_of_blk hr7 1).1
        have k2 : w7.cell? ⟨w.heap.size + 1, 2, none⟩ = some (.int .i64 ta) := (cell_of_blk hr7 2).1
        have k3 : w7.cell? ⟨w.heap.size + 1, 3, none⟩ = some (.int .i64 ty) := (cell_of_blk hr7 3).1
        have k4 : w7.cell? ⟨w.heap.size + 1, 4, none⟩ = some (.int .i64 tn) := (cell_of_blk hr7 4).1
        clear hr7 r0 r1 r2 r3 r4 s0 s1 s2 s3 s4 y0 y1 y2 y3 y4
        refine bodyPost_ret (v := .agg #[.slice QA ops.length qc, .int .i64 tk, .int .i64 ta, .int .i64 ty, .int .i64 tn]) (by simp [results, Try.results18, go_sem, k0, k1, k2, k3, k4]; try rfl) rfl ?_
        rw [← HPO.out]
        refine ⟨QA, qc, ?_, own_more hW7 (by omega), hB7⟩
        show _ = Ending.returned (.agg #[.slice QA l.length qc, .int .i64 tk, .int .i64 ta, .int .i64 ty, .int .i64 tn])
        rw [hlen]
end Go.Proofs.Ytfadeipdepamlaa
