/- The Go function FoldAgain returns true on every input and leaves its arguments as they were. No condition. -/
import Derived.Test.YtiaimceefkdchaaRows
import Derived.WalkKit
import Derived.ProofKit
import Derived.OpenShut
import Derived.Test.YtiaimceefkdchaaLawKit
import Derived.SizedLaws
import Derived.Test.YtiaimceefkdchaaFoldZ
import Derived.Test.YtiaimceefkdchaaSameM
namespace Go.Proofs.Ytiaimceefkdchaa.foldAgain
open Go.ChangeShapes Go.WideShapes Go.ChangeAt Go.RowKit
set_option linter.unusedVariables false

set_option maxRecDepth 100000 in
set_option maxHeartbeats 8000000 in
theorem bad (p : Ir) (av bv : Value) (hf : p.fine) (he : irErr p ≠ 0) (w : World) (hI : IrRep w w.heap.size p av bv) : Calls Try.prog 14 #[irVal p av bv] w fun e w' => e = .returned (.bool true) ∧ Below w.heap.size w w' := by
  have HC := Lib.hid (fun W h => ir_Check p av bv hf W h)
  have HCP := Lib.hid (fun W h => fold_Fold_bad p av bv hf he W h)
  have q : (irErr p != 0) = true := by rw [bne_iff_ne]; exact he
  have qe : (irErr p == irErr p) = true := by simp
  unfold irVal at HC HCP ⊢
  unfold PassPost irZero at HCP
  simp only [List.length_nil] at HCP
  generalize irErr p = fe at *
  have HX := Lib.hid (heap_alloc_new w (.cells #[.int .i64 p.temps, av, bv, .int .i64 p.inp, .int .i64 p.out] 25))
  have hb := bnew w (.cells #[.int .i64 p.temps, av, bv, .int .i64 p.inp, .int .i64 p.out] 25)
  have HIW := Lib.hid (hI.next hb)
  have HB := Lib.hid hb
  clear hI he hf hb
  go_enter Try.func14, Try.ntmps14
  go_wp2_with fail
  generalize w.alloc (.cells #[.int .i64 p.temps, av, bv, .int .i64 p.inp, .int .i64 p.out] 25) = w1 at *
  refine (HCP.out _ HIW.out).mono ?_
  rintro e w2 ⟨A, ac, C, bc, rfl, hIq, hb2⟩
  have hx2 := alloc_old ((hb2.block _ (lt_of_blk HX.out)).trans HX.out) (.cells #[.int .i64 0, .slice A 0 ac, .slice C 0 bc, .int .i64 0, .int .i64 0] 25)
  have HB2 := Lib.hid (bal (bch HB.out hb2) (.cells #[.int .i64 0, .slice A 0 ac, .slice C 0 bc, .int .i64 0, .int .i64 0] 25))
  have HI2 := Lib.hid ((HIW.out.next hb2).next (bnew w2 (.cells #[.int .i64 0, .slice A 0 ac, .slice C 0 bc, .int .i64 0, .int .i64 0] 25)))
  obtain ⟨c0, c1, c2, c3, c4, _⟩ := ir_cells_at hx2
  clear hx2 hIq hb2
  go_wp2_with fail
  generalize w2.alloc (.cells #[.int .i64 0, .slice A 0 ac, .slice C 0 bc, .int .i64 0, .int .i64 0] 25) = w3 at *
  refine (HC.out _ HI2.out).mono ?_
  rintro e w4 ⟨rfl, hb4⟩
  have HB4 := Lib.hid (bch HB2.out hb4)
  clear c0 c1 c2 c3 c4 hb4
  go_wp2_with fail
  refine (law19_lives _).mono ?_
  rintro e w5 ⟨rfl, hb5⟩
  go_wp2_with fail
  go_ret
  exact ⟨rfl, bch HB4.out hb5⟩
set_option maxRecDepth 100000 in
set_option maxHeartbeats 8000000 in
theorem good (p : Ir) (av bv : Value) (hf : p.fine) (he : irErr p = 0) (w : World) (hI : IrRep w w.heap.size p av bv) : Calls Try.prog 14 #[irVal p av bv] w fun e w' => e = .returned (.bool true) ∧ Below w.heap.size w w' := by
  have HCP := Lib.hid (fun W h => fold_Fold p av bv hf he W h)
  have hqe := fd_err he
  have hqf := fd_fine he hf
  have hqi : fdIr (fdIr p) = fdIr p := fdIr_idem (irErr_ok he).2.2.2
  have hlq : (fdIr p).blocks.length = p.blocks.length := List.length_map ..
  have HLN : Hid (∀ k, k < p.blocks.length → ((fdIr p).blocks.getD k blkNone).ops.length = (p.blocks.getD k blkNone).ops.length) := Lib.hid (fun k hk => by
    rw [show (fdIr p).blocks.getD k blkNone = fdBlk (p.blocks.getD k blkNone) from getD_mapI _ _ _ _ _ hk]
    exact fdList_len _)
  have HDS : Hid (∀ k, k < p.blocks.length → ∀ j, j < (p.blocks.getD k blkNone).ops.length → (((fdIr p).blocks.getD k blkNone).ops.getD j opNone).dst = ((p.blocks.getD k blkNone).ops.getD j opNone).dst) := Lib.hid (fun k hk j hj => by
    rw [show (fdIr p).blocks.getD k blkNone = fdBlk (p.blocks.getD k blkNone) from getD_mapI _ _ _ _ _ hk]
    exact fd_dst_at ((irErr_ok he).2.2.2 _ (getD_memI p.blocks k blkNone hk)).1 j hj)
  obtain ⟨BA, pbc, rfl, hbc⟩ := hI.2.form
  generalize fdIr p = q at *
  have HCQ := Lib.hid (fun av bv W h => fold_Fold q av bv hqf hqe W h)
  have HSM := Lib.hid (fun av bv cv dv W h k => ref17_Same q hqf av bv cv dv W h k)
  rw [hqi] at HCQ
  unfold irVal at HCP HCQ HSM ⊢
  unfold PassPost at HCP HCQ
  have hqb := hqf.2.2.2.2.1
  have HOL : Hid (∀ k, k < p.blocks.length → (p.blocks.getD k blkNone).ops.length ≤ 4398046511104) := Lib.hid (fun k hk => (hf.2.2.2.2.2.2 _ (getD_memI p.blocks k blkNone hk)).1)
  have hpb := hf.2.2.2.2.1
  have qlb : ((q.blocks.length : Int) != (p.blocks.length : Int)) = false := by rw [hlq, bne_eq_false_iff_eq]
  have HLQ := Lib.hid hlq
  have HX := Lib.hid (heap_alloc_new w (.cells #[.int .i64 p.temps, av, .slice BA p.blocks.length pbc, .int .i64 p.inp, .int .i64 p.out] 25))
  have hb := bnew w (.cells #[.int .i64 p.temps, av, .slice BA p.blocks.length pbc, .int .i64 p.inp, .int .i64 p.out] 25)
  have HIW := Lib.hid (hI.next hb)
  have HB := Lib.hid hb
  clear hI he hf hb hqe hqf hqi hlq hbc
  go_enter Try.func14, Try.ntmps14
  go_wp2_with fail
  generalize w.alloc (.cells #[.int .i64 p.temps, av, .slice BA p.blocks.length pbc, .int .i64 p.inp, .int .i64 p.out] 25) = w1 at *
  refine (HCP.out _ HIW.out).mono ?_
  rintro e w2 ⟨A, ac, C, bc, rfl, hIq, hb2⟩
  have HX3 := Lib.hid (alloc_old ((hb2.block _ (lt_of_blk HX.out)).trans HX.out) (.cells #[.int .i64 q.temps, .slice A q.arrays.length ac, .slice C q.blocks.length bc, .int .i64 q.inp, .int .i64 q.out] 25))
  have HY3 := Lib.hid (heap_alloc_new w2 (.cells #[.int .i64 q.temps, .slice A q.arrays.length ac, .slice C q.blocks.length bc, .int .i64 q.inp, .int .i64 q.out] 25))
  have hb3 := bnew w2 (.cells #[.int .i64 q.temps, .slice A q.arrays.length ac, .slice C q.blocks.length bc, .int .i64 q.inp, .int .i64 q.out] 25)
  have HB3 := Lib.hid (bch (bch HB.out hb2) hb3)
  have HI3 := Lib.hid ((HIW.out.next hb2).next hb3)
  have HQ3 := Lib.hid (hIq.next hb3)
  obtain ⟨c0, c1, c2, c3, c4, _⟩ := ir_cells_at HY3.out
  clear hIq hb2 hb3
  go_wp2_with fail
  generalize w2.alloc (.cells #[.int .i64 q.temps, .slice A q.arrays.length ac, .slice C q.blocks.length bc, .int .i64 q.inp, .int .i64 q.out] 25) = w3 at *
  refine (HCQ.out _ _ _ HQ3.out).mono ?_
  rintro e w6 ⟨A2, ac2, C2, bc2, rfl, hIr, hb6⟩
  have HZ7 := Lib.hid (heap_alloc_new w6 (.cells #[.int .i64 q.temps, .slice A2 q.arrays.length ac2, .slice C2 q.blocks.length bc2, .int .i64 q.inp, .int .i64 q.out] 25))
  have hb7 := bnew w6 (.cells #[.int .i64 q.temps, .slice A2 q.arrays.length ac2, .slice C2 q.blocks.length bc2, .int .i64 q.inp, .int .i64 q.out] 25)
  have HX7 := Lib.hid (((bch hb6 hb7).block _ (lt_of_blk HX3.out)).trans HX3.out)
  have HY7 := Lib.hid (((bch hb6 hb7).block _ (lt_of_blk HY3.out)).trans HY3.out)
  have HB7 := Lib.hid (bch HB3.out (bch hb6 hb7))
  have HI7 := Lib.hid (IrRep.next HI3.out (bch hb6 hb7))
  have HQ7 := Lib.hid (IrRep.next HQ3.out (bch hb6 hb7))
  have HR7 := Lib.hid (hIr.next hb7)
  clear c0 c1 c2 c3 c4 hIr hb6 hb7
  obtain ⟨c0, c1, c2, c3, c4, _⟩ := ir_cells_at HY7.out
  obtain ⟨e0, e1, e2, e3, e4, _⟩ := ir_cells_at HZ7.out
  go_wp2_with fail
  generalize w6.alloc (.cells #[.int .i64 q.temps, .slice A2 q.arrays.length ac2, .slice C2 q.blocks.length bc2, .int .i64 q.inp, .int .i64 q.out] 25) = w7 at *
  refine (HSM.out _ _ _ _ _ HQ7.out HR7.out).mono ?_
  rintro e w8 ⟨rfl, hb8⟩
  have HX8 := Lib.hid ((hb8.block _ (lt_of_blk HX7.out)).trans HX7.out)
  have HY8 := Lib.hid ((hb8.block _ (lt_of_blk HY7.out)).trans HY7.out)
  have HB8 := Lib.hid (bch HB7.out hb8)
  have HI8 := Lib.hid (IrRep.next HI7.out hb8)
  have HQ8 := Lib.hid (IrRep.next HQ7.out hb8)
  clear c0 c1 c2 c3 c4 e0 e1 e2 e3 e4 hb8
  have c2 := (ir_cells_at HX8.out).2.2.1
  have d2 := (ir_cells_at HY8.out).2.2.1
  go_wp2_with fail
  clear c2 d2
  go_loopw [7] (fun vi wr => ∃ (k : Nat), k ≤ p.blocks.length ∧ vi = .int .i64 k ∧ Below w8.heap.size w8 wr) (fun vi _ => p.blocks.length - (intOf vi).toNat)
  case atStart => exact ⟨0, Nat.zero_le _, rfl, Below.refl _ _⟩
  case round =>
    obtain ⟨k, hk, rfl, hBW⟩ := hrel
    have c2 := (ir_cells_at ((hBW.block _ (lt_of_blk HX8.out)).trans HX8.out)).2.2.1
    have d2 := (ir_cells_at ((hBW.block _ (lt_of_blk HY8.out)).trans HY8.out)).2.2.1
    have HBW := Lib.hid hBW
    clear hBW
    by_cases hlt : k < p.blocks.length
    · obtain ⟨b, off, rfl, hb0, OA, oc, hops, hoc, x0, _, _, _, _⟩ := blk_at (HI8.out.2.below HBW.out (Nat.le_refl _)) k hlt
      obtain ⟨b', off', rfl, hb0', PA, pc, hpps, hpc, y0, _, _, _, _⟩ := blk_at (HQ8.out.2.below HBW.out (Nat.le_refl _)) k (by have := HLQ.out; omega)
      have hln := HLN.out k hlt
      have hol := HOL.out k hlt
      have HDK := Lib.hid (HDS.out k hlt)
      rw [hln] at hpps hpc y0
      generalize (q.blocks.getD k blkNone).ops = qops at *
      generalize (p.blocks.getD k blkNone).ops = ops at *
      have HOP := Lib.hid hops
      have HPP := Lib.hid (show SlRep opEnc wr w8.heap.size (.slice PA qops.length pc) qops by rw [hln]; exact hpps)
      have HLNK := Lib.hid hln
      have k0 : (0 : Int) ≤ (k : Int) := by omega
      have k1 : (k : Int) < (p.blocks.length : Int) := by omega
      have k2 : (k : Int) < (q.blocks.length : Int) := by have := HLQ.out; omega
      clear hops hpps hln
      go_wp2_with fail
      go_quiet (fail)
      go_wp2_with fail
      have hbd : Below wr.heap.size wr (wr.drewN nq) := bdrawn (Below.refl _ _) nq
      have HBD := Lib.hid hbd
      have HBX := Lib.hid (bch HBW.out hbd)
      have HCA : Hid (b < wr.heap.size ∧ b' < wr.heap.size) := Lib.hid ⟨by have := HBW.out.size; omega, by have := HBW.out.size; omega⟩
      have HX0 := Lib.hid x0
      have HY0 := Lib.hid y0
      have HC2 := Lib.hid c2
      have HD2 := Lib.hid d2
      clear hbd x0 y0 c2 d2
      generalize hwd : wr.drewN nq = wd at *
      clear hwd
      obtain ⟨wo, rfl⟩ : ∃ wo : World, wo = wr := ⟨_, rfl⟩
      go_loopw [8] (fun vj wr => ∃ (j : Nat), j ≤ ops.length ∧ vj = .int .i64 j ∧ Below wo.heap.size wo wr) (fun vj _ => ops.length - (intOf vj).toNat)
      case atStart => exact ⟨0, Nat.zero_le _, rfl, HBD.out⟩
      case round =>
        obtain ⟨j, hj, rfl, hBJ⟩ := hrel
        have c2 := (ir_cells_at (((HBW.out.trans (hBJ.mono HBW.out.size)).block _ (lt_of_blk HX8.out)).trans HX8.out)).2.2.1
        have d2 := (ir_cells_at (((HBW.out.trans (hBJ.mono HBW.out.size)).block _ (lt_of_blk HY8.out)).trans HY8.out)).2.2.1
        have hca := HCA.out
        have x0 := (hBJ.cell (p := ⟨b, off + k * 5, none⟩) hca.1).trans HX0.out
        have y0 := (hBJ.cell (p := ⟨b', off' + k * 5, none⟩) hca.2).trans HY0.out
        have HBE := Lib.hid (bch HBW.out hBJ)
        have hws := HBW.out.size
        have HO2 := Lib.hid (HOP.out.below hBJ hws)
        have HP2 := Lib.hid (HPP.out.below hBJ hws)
        have HBJ := Lib.hid hBJ
        clear hBJ hca hws
        by_cases hjl : j < ops.length
        · obtain ⟨ob, ooff, rfl, hob, _, s1, _, _, _, _⟩ := op_at HO2.out j hjl
          obtain ⟨ob', ooff', rfl, hob', _, t1, _, _, _, _⟩ := op_at HP2.out j (by have := HLNK.out; omega)
          have hdj := HDK.out j hjl
          rw [hdj] at t1
          generalize (ops.getD j opNone).dst = dd at *
          have j0 : (0 : Int) ≤ (j : Int) := by omega
          have j1 : (j : Int) < (ops.length : Int) := by omega
          clear hdj
          go_wp2_with fail
          go_quiet (fail)
          go_wp2_with fail
          go_roundw
          case rel => exact ⟨j + 1, by omega, by go_num, bdrawn HBJ.out _⟩
          case measure => simp [intOf]; omega
        · obtain rfl : j = ops.length := by omega
          go_wp2_with fail
          go_roundw
          case rel => exact ⟨k + 1, by omega, by go_num, HBE.out⟩
          case measure => simp [intOf]; omega
    · obtain rfl : k = p.blocks.length := by omega
      go_wp2_with fail
      refine (law19_lives _).mono ?_
      rintro e w10 ⟨rfl, hb10⟩
      go_wp2_with fail
      go_ret
      exact ⟨rfl, bch (bch HB8.out HBW.out) hb10⟩
set_option maxHeartbeats 8000000 in
theorem walk (p : Ir) (av bv : Value) (v0 : Value) (hv : v0 = irVal p av bv) (hf : p.fine) (w : World) (hI : IrRep w w.heap.size p av bv) :
    Calls Try.prog 14 #[v0] w fun e w' => e = .returned (.bool true) ∧ Below w.heap.size w w' := by
  subst hv
  by_cases he : irErr p = 0
  · exact good p av bv hf he w hI
  · exact bad p av bv hf he w hI

theorem own : ownKnob Try.prog.godebug = none := by kernel_rfl
set_option maxRecDepth 100000 in
theorem lifted (os : Os) (started : os.Started) (H : Type) (enc : TypeId × Value → H) :
    ReturnsInHanded {} Try.checked os 14 .any (Rows.foldAgainSpec.pre6 enc Try.prog Try.f14 Rows.foldAgainRow.domain false) (Rows.foldAgainSpec.post enc Try.prog Try.f14 false true false false) := by
  refine returnsInHanded_of_change_sized (C := Try.checked) own started (by kernel_rfl) Try.func14
    (ChangeSpec.witness6 (enc := enc) (C := Try.checked) false ⟨#[], #[.agg #[.int .i64 0, .slice none 0 0, .slice none 0 0, .int .i64 0, .int .i64 0]], []⟩ 8 (by kernel_rfl) (by kernel_rfl) (by kernel_rfl) (by kernel_rfl)) ?_
  intro W base args ds gs before hval0 hW hcnd hsz _
  have hval : ∀ (j : Nat) t v, Try.f14.params[j]? = some t → args[j]? = some v → Value.okWide Try.prog W .any base t v := hval0
  have hW' := hW
  obtain ⟨p, q, hA0, hV, rfl, hfz, hnd⟩ := hW
  have hA : DataW.TrodAll enc Try.prog W 0 (fun _ => true) true Try.f14.params.toList args.toList ds p := hA0
  rw [Try.params14] at hA hval
  obtain ⟨v0, vs0, d0, ds0, p0, q0, hargs, rfl, rfl, h0, r0⟩ := trodAll_cons hA
  obtain ⟨rfl, rfl, rfl⟩ := trodAll_nil r0
  obtain rfl : args = #[v0] := by cases args; simp_all
  obtain ⟨rfl, rfl⟩ := trodVars_none hV
  clear hA0 hval0
  obtain ⟨p, av, bv, hv, hI, hf⟩ := open_ir (hval 0 25 v0 rfl rfl) h0 (fun x hx => by simpa using hW'.lt x (by simp [hx])) (weights_of hsz 0 rfl rfl)
  refine (walk p av bv v0 hv hf W hI).mono fun e W' ⟨he, hg⟩ => ?_
  subst he
  exact ⟨_, rfl, law_post (by kernel_rfl) (by kernel_rfl) rfl (by kernel_rfl) Try.underlying4 rfl hW' hg⟩

theorem proved : Rows.FoldAgainSaid :=
  OpenClaim.holds_of_wide 14 Try.f14 rfl rfl rfl rfl rfl rfl rfl ⟨rfl, rfl, rfl, rfl, rfl⟩ rfl rfl rfl rfl rfl (by kernel_rfl) Try.func14 (by kernel_rfl)
    (of_decide_eq_true (by kernel_rfl)) (by unfold Func.isWrapper; first | (rw [if_pos (by decide +kernel)]; kernel_rfl) | (rw [if_neg (by decide +kernel)]; exact ⟨rfl, rfl⟩))
    (fun os started H enc _ => lifted os started H enc)
#print axioms proved
end Go.Proofs.Ytiaimceefkdchaa.foldAgain
