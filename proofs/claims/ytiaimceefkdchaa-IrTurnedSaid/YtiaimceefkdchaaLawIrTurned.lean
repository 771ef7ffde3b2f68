/- The Go function IrTurned returns true on every input and leaves its arguments as they were. No condition. -/
import Derived.Test.YtiaimceefkdchaaRows
import Derived.WalkKit
import Derived.ProofKit
import Derived.OpenShut
import Derived.Test.YtiaimceefkdchaaLawKit
import Derived.SizedLaws
import Derived.Test.YtiaimceefkdchaaTurnB
import Derived.Test.YtiaimceefkdchaaTurnM
namespace Go.Proofs.Ytiaimceefkdchaa.irTurned
open Go.ChangeShapes Go.WideShapes Go.ChangeAt Go.RowKit
set_option linter.unusedVariables false

theorem far (p : Ir) (av bv : Value) (input : ByteArray) (budget : Int) (h : budget < 0 ∨ (0 ≤ budget ∧ 3000 < budget)) (w : World) : Calls Try.prog 12 #[irVal p av bv, .string input, .int .i64 budget] w fun e w' => e = .returned (.bool true) ∧ Below w.heap.size w w' := by
  unfold irVal
  rcases h with h | ⟨h1, h⟩
  all_goals
    go_enter Try.func12, Try.ntmps12
    go_wp2_with fail
    refine (law17_lives _).mono ?_
    rintro e w2 ⟨rfl, hb2⟩
    go_wp2_with fail
    go_ret
    exact ⟨rfl, bch (bnew _ _) hb2⟩
theorem bad (p : Ir) (av bv : Value) (hf : p.fine) (input : ByteArray) (budget : Int) (h0 : 0 ≤ budget) (h1 : budget ≤ 3000) (he : irErr p ≠ 0) (w : World) (hI : IrRep w w.heap.size p av bv) : Calls Try.prog 12 #[irVal p av bv, .string input, .int .i64 budget] w fun e w' => e = .returned (.bool true) ∧ Below w.heap.size w w' := by
  have HC := Lib.hid (fun W h => ir_Check p av bv hf W h)
  have HI := Lib.hid hI
  have q : (irErr p != 0) = true := by rw [bne_iff_ne]; exact he
  unfold irVal at *
  generalize irErr p = fe at *
  clear hI he
  go_enter Try.func12, Try.ntmps12
  go_wp2_with fail
  refine (HC.out _ (HI.out.next (bnew _ _))).mono ?_
  rintro e w1 ⟨rfl, hb1⟩
  have HB := Lib.hid (bch (bnew _ _) hb1)
  clear hb1
  go_wp2_with fail
  refine (law17_lives _).mono ?_
  rintro e w2 ⟨rfl, hb2⟩
  go_wp2_with fail
  go_ret
  exact ⟨rfl, bch HB.out hb2⟩
set_option maxRecDepth 100000 in
set_option maxHeartbeats 8000000 in
theorem good (p : Ir) (av bv : Value) (hf : p.fine) (input : ByteArray) (hsz : input.size ≤ maxLen) (budget : Int) (h0 : 0 ≤ budget) (h1 : budget ≤ 3000) (he : irErr p = 0) (w : World) (hI : IrRep w w.heap.size p av bv) : Calls Try.prog 12 #[irVal p av bv, .string input, .int .i64 budget] w fun e w' => e = .returned (.bool true) ∧ Below w.heap.size w w' := by
  have HC := Lib.hid (fun W h => ir_Check p av bv hf W h)
  have HRP := Lib.hid (fun W h => ir_Run p av bv hf input hsz budget W h)
  have HTN := Lib.hid (fun W h => law17_Turned p av bv he W h)
  have hlaw := turn_law he input budget h0 h1
  have HNE : Hid ((irRun p input budget).2 ≠ 18) := Lib.hid (by
    by_cases hi : (input.size : Int) = p.inp
    · rw [irRun_go he hi h0 (by omega)]
      rcases runP_errs p budget.toNat 0 0 (startP p input) with h | h | h <;> rw [h] <;> decide
    · rw [irRun_size he hi]; decide)
  obtain ⟨hng, hm⟩ := irErr_ok he
  unfold greatP at hng
  have hrs := railSum_nonneg p.arrays
  have hT1 : p.temps ≤ 1048576 := by omega
  have hT0 : 0 ≤ p.temps := hm.1.2.2.1
  have hn2 : p.blocks.length ≤ 1048576 := by omega
  have hqf := turn_fine hf hm hT1 hn2
  have HQC := Lib.hid (fun av bv W h => ir_Check (turnAll p) av bv hqf W h)
  have HQR := Lib.hid (fun av bv W h => ir_Run (turnAll p) av bv hqf input hsz budget W h)
  obtain ⟨AA, ac, rfl, hac⟩ := hI.1.form
  have HI := Lib.hid hI
  have HQE : Hid (((p.blocks.length : Int) < 1000 ∧ p.temps < 1000) → turnAll p = turnExt (turnIr p)) := Lib.hid (fun h => by unfold turnAll; rw [if_pos h])
  have HQN : Hid (¬ ((p.blocks.length : Int) < 1000 ∧ p.temps < 1000) → turnAll p = turnIr p) := Lib.hid (fun h => by unfold turnAll; rw [if_neg h])
  unfold maxLen at hsz
  rw [he] at HC
  have hx := heap_alloc_new w (.cells #[.int .i64 p.temps, (.slice AA p.arrays.length ac), bv, .int .i64 p.inp, .int .i64 p.out] 25)
  have hb := bnew w (.cells #[.int .i64 p.temps, (.slice AA p.arrays.length ac), bv, .int .i64 p.inp, .int .i64 p.out] 25)
  have HIW := Lib.hid (HI.out.next hb)
  unfold irVal at HC HRP HTN ⊢
  unfold RunPost at HRP HQR
  unfold TnPost irVal turnIr at HTN
  clear hng hm hrs hqf hI hf he
  go_enter Try.func12, Try.ntmps12
  go_wp2_with fail
  generalize w.alloc (.cells #[.int .i64 p.temps, (.slice AA p.arrays.length ac), bv, .int .i64 p.inp, .int .i64 p.out] 25) = w1 at *
  have HX := Lib.hid hx
  have HB := Lib.hid hb
  refine (HC.out _ HIW.out).mono ?_
  rintro e w2 ⟨rfl, hb2⟩
  have hx2 := (hb2.block _ (lt_of_blk HX.out)).trans HX.out
  obtain ⟨c0, c1, c2, c3, c4, cf⟩ := ir_cells_at hx2
  have HX2 := Lib.hid hx2
  have HI2 := Lib.hid (HIW.out.next hb2)
  have HB2 := Lib.hid (bch HB.out hb2)
  clear hx hb hb2 hx2
  go_wp2_with fail
  refine (HRP.out _ HI2.out).mono ?_
  rintro e w3 ⟨rfl, hb3⟩
  have hx3 := (hb3.block _ (lt_of_blk HX2.out)).trans HX2.out
  have HI3 := Lib.hid (HI2.out.next hb3)
  have HB3 := Lib.hid (bch HB2.out hb3)
  clear c0 c1 c2 c3 c4 cf hb3
  obtain ⟨c0, c1, c2, c3, c4, cf⟩ := ir_cells_at hx3
  clear hx3
  go_wp2_with fail
  refine (HTN.out _ HI3.out).mono ?_
  rintro e w4 ⟨lv, ovs, rfl, hBL, hb4⟩
  clear c0 c1 c2 c3 c4 cf
  obtain ⟨LA, lc, rfl⟩ := ownN_len hBL.row
  rw [List.length_map] at hBL ⊢
  have HB4 := Lib.hid (bch HB3.out hb4)
  have HAR := Lib.hid (HI3.out.next hb4).1
  have hx5 := heap_alloc_new w4 (.cells #[.int .i64 p.temps, (.slice AA p.arrays.length ac), .slice LA p.blocks.length lc, .int .i64 p.inp, .int .i64 p.out] 25)
  have hb5 := bnew w4 (.cells #[.int .i64 p.temps, (.slice AA p.arrays.length ac), .slice LA p.blocks.length lc, .int .i64 p.inp, .int .i64 p.out] 25)
  have HX5 := Lib.hid hx5
  have HB5 := Lib.hid (bch HB4.out hb5)
  have HAR5 := Lib.hid (HAR.out.next hb5)
  have HBL5 := Lib.hid (hBL.below hb5)
  have HBLT := Lib.hid hBL.lt_
  have HBQ := Lib.hid hb4.size
  have HI4A := Lib.hid ((HI3.out.1).below hb4 (Nat.le_refl _))
  clear hx5 hb5 hBL hb4
  have hlaw2 : (irErr (turnAll p) = 0 ∧ irRun (turnAll p) input budget = irRun p input budget) ∨ (irErr (turnAll p) = 18 ∧ irRun (turnAll p) input budget = (⟨#[]⟩, 18) ∧ (irRun p input budget).2 ≠ 18) := by
    rcases hlaw with h | h
    · exact Or.inl h
    · exact Or.inr ⟨h, by rw [irRun_bad (by rw [h]; decide), h]; rfl, HNE.out⟩
  clear hlaw
  generalize irRun p input budget = r1 at *
  obtain ⟨s1, e1⟩ := r1
  by_cases hext : (p.blocks.length : Int) < 1000 ∧ p.temps < 1000
  · have hqe := HQE.out hext
    obtain ⟨hx1, hx2⟩ := hext
    have hz5 : (w4.alloc (.cells #[.int .i64 p.temps, (.slice AA p.arrays.length ac), .slice LA p.blocks.length lc, .int .i64 p.inp, .int .i64 p.out] 25)).heap.size = w4.heap.size + 1 := by simp
    have hz6 : ((w4.alloc (.cells #[.int .i64 p.temps, (.slice AA p.arrays.length ac), .slice LA p.blocks.length lc, .int .i64 p.inp, .int .i64 p.out] 25)).alloc (.cells #[.int .i64 1, .int .i64 p.temps, .int .i64 0, .int .i64 0, .int .i64 0, .int .i64 1] 58)).heap.size = w4.heap.size + 1 + 1 := alloc_size _ _ hz5
    have hov := World.ownsRow_lit (base := w4.heap.size + 1) (e := 58) (size := 6) (w4.alloc (.cells #[.int .i64 p.temps, (.slice AA p.arrays.length ac), .slice LA p.blocks.length lc, .int .i64 p.inp, .int .i64 p.out] 25)) #[.int .i64 1, .int .i64 p.temps, .int .i64 0, .int .i64 0, .int .i64 0, .int .i64 1] 1 (by rw [hz5]; omega) (by unfold maxLen; omega) rfl
    rw [hz5] at hov
    have hbq := HBQ.out
    have hbl6 := HBL5.out.below (bnew (w4.alloc (.cells #[.int .i64 p.temps, (.slice AA p.arrays.length ac), .slice LA p.blocks.length lc, .int .i64 p.inp, .int .i64 p.out] 25)) (.cells #[.int .i64 1, .int .i64 p.temps, .int .i64 0, .int .i64 0, .int .i64 0, .int .i64 1] 58))
    obtain ⟨v', w9, hrun, g1, g2, ⟨A', c', hform⟩, g4, g5⟩ := hbl6.push (A := some ⟨w4.heap.size + 1, 0, none⟩) (c := 1) (ops := [⟨1, p.temps, 0, 0, 0, 1⟩]) hov (by omega) (fun r hr e9 => by
      injection hr with hr
      have hr3 : w4.heap.size + 1 = r := hr
      have h2 := HBLT.out.1 r e9
      omega) (by rw [hz6]; omega) (by simp; omega) ⟨1, 0, 0, 0⟩
    rw [hz6] at hrun
    have hxq := g5 (alloc_old HX5.out (.cells #[.int .i64 1, .int .i64 p.temps, .int .i64 0, .int .i64 0, .int .i64 0, .int .i64 1] 58)) (fun e9 => by have h2 := HBLT.out.1 _ e9; omega)
    have hne9 : ∀ ov ∈ ovs ++ [Value.slice (some ⟨w4.heap.size + 1, 0, none⟩) 1 1], ov.ownBlock ≠ some w4.heap.size := by
      intro ov hm e9
      rcases List.mem_append.1 hm with hm | hm
      · have h2 := HBLT.out.2 ov hm _ e9; omega
      · rw [List.mem_singleton.1 hm] at e9
        injection e9 with e9
        have e10 : w4.heap.size + 1 = w4.heap.size := e9
        omega
    have hnv9 : v'.ownBlock ≠ some w4.heap.size := by
      intro e9
      rcases g4 with g4 | g4
      · rw [g4] at e9; have h2 := HBLT.out.1 _ e9; omega
      · rw [g4, hz6] at e9
        injection e9 with e9
        omega
    have hl9 : ((p.blocks.map (turnBlk p)).length) = p.blocks.length := by simp
    rw [hl9] at hform
    subst hform
    have g1b := (g1.setOther ⟨w4.heap.size, 2, none⟩ (.slice A' (p.blocks.length + 1) c') hnv9 hne9).setOther ⟨w4.heap.size, 0, none⟩ (.int .i64 (p.temps + 1)) hnv9 hne9
    have hxq2 : ((w9.setCell ⟨w4.heap.size, 2, none⟩ (.slice A' (p.blocks.length + 1) c')).setCell ⟨w4.heap.size, 0, none⟩ (.int .i64 (p.temps + 1))).heap[w4.heap.size]? = some (.cells #[.int .i64 (p.temps + 1), (.slice AA p.arrays.length ac), .slice A' (p.blocks.length + 1) c', .int .i64 p.inp, .int .i64 p.out] 25 (0, 0)) := blk_set (blk_set hxq 2 _) 0 _
    have hb9 := ((g2 (bal (bch HB4.out (bnew _ _)) _) (show w.heap.size ≤ w3.heap.size by have := HB3.out.size; omega)).setCell (p := ⟨w4.heap.size, 2, none⟩) (show w.heap.size ≤ w4.heap.size by have := HB4.out.size; omega) (.slice A' (p.blocks.length + 1) c')).setCell (p := ⟨w4.heap.size, 0, none⟩) (show w.heap.size ≤ w4.heap.size by have := HB4.out.size; omega) (.int .i64 (p.temps + 1))
    have hbar := ((g2 (bal (bnew w4 _) _ |>.mono hbq) (Nat.le_refl _)).setCell (p := ⟨w4.heap.size, 2, none⟩) hbq (.slice A' (p.blocks.length + 1) c')).setCell (p := ⟨w4.heap.size, 0, none⟩) hbq (.int .i64 (p.temps + 1))
    have har9 : SlRep arrEnc ((w9.setCell ⟨w4.heap.size, 2, none⟩ (.slice A' (p.blocks.length + 1) c')).setCell ⟨w4.heap.size, 0, none⟩ (.int .i64 (p.temps + 1))) ((w9.setCell ⟨w4.heap.size, 2, none⟩ (.slice A' (p.blocks.length + 1) c')).setCell ⟨w4.heap.size, 0, none⟩ (.int .i64 (p.temps + 1))).heap.size (.slice AA p.arrays.length ac) p.arrays := HI4A.out.keep (Nat.le_trans hbq hbar.size) (fun q hq => hbar.cell hq)
    have HIQ : Hid (IrRep ((w9.setCell ⟨w4.heap.size, 2, none⟩ (.slice A' (p.blocks.length + 1) c')).setCell ⟨w4.heap.size, 0, none⟩ (.int .i64 (p.temps + 1))) ((w9.setCell ⟨w4.heap.size, 2, none⟩ (.slice A' (p.blocks.length + 1) c')).setCell ⟨w4.heap.size, 0, none⟩ (.int .i64 (p.temps + 1))).heap.size (turnAll p) (.slice AA p.arrays.length ac) (.slice A' (p.blocks.length + 1) c')) := Lib.hid (by rw [hqe]; exact ⟨har9, by have h := g1b.rep; exact h⟩)
    replace HQR := Lib.hid (HQR.out (.slice AA p.arrays.length ac) (.slice A' (p.blocks.length + 1) c'))
    replace HQC := Lib.hid (HQC.out (.slice AA p.arrays.length ac) (.slice A' (p.blocks.length + 1) c'))
    have hfl : irVal (turnAll p) (.slice AA p.arrays.length ac) (.slice A' (p.blocks.length + 1) c') = .agg #[.int .i64 (p.temps + 1), (.slice AA p.arrays.length ac), .slice A' (p.blocks.length + 1) c', .int .i64 p.inp, .int .i64 p.out] := by rw [hqe]; rfl
    rw [hfl] at HQR HQC
    generalize irRun (turnAll p) input budget = r2 at *
    obtain ⟨s2, e2⟩ := r2
    have hlaw := hlaw2
    simp only [Prod.mk.injEq] at hlaw
    generalize irErr (turnAll p) = qe at *
    have HRUN := Lib.hid hrun
    have HB9 := Lib.hid hb9
    have HXQ2 := Lib.hid hxq2
    obtain ⟨c0, c1, c2, c3, c4, cf⟩ := ir_cells_at hxq
    have cf0 := (cell_of_blk hxq 0).2
    clear hlaw2 hqe hfl HQN HQE g1 g1b g2 g4 g5 hrun hb9 hxq hxq2 hbar har9 hne9 hnv9 hbl6 hov hz5 hz6 hl9 hbq
    go_wp2_with (at_builtin; refine wpList_app rfl (.tmp 44) (.tmp 51) 23 rfl HRUN.out rfl rfl ?_)
    clear c0 c1 c2 c3 c4 cf cf0
    generalize (w9.setCell ⟨w4.heap.size, 2, none⟩ (.slice A' (p.blocks.length + 1) c')).setCell ⟨w4.heap.size, 0, none⟩ (.int .i64 (p.temps + 1)) = w8 at *
    refine (HQR.out _ HIQ.out).mono ?_
    rintro e u1 ⟨rfl, hu1⟩
    have hxq := (hu1.block _ (lt_of_blk HXQ2.out)).trans HXQ2.out
    obtain ⟨c0, c1, c2, c3, c4, cf⟩ := ir_cells_at hxq
    have HIU := Lib.hid (IrRep.next HIQ.out hu1)
    have HBU := Lib.hid (bch HB9.out hu1)
    clear hu1 hxq
    go_wp2_with fail
    refine (HQC.out _ HIU.out).mono ?_
    rintro e u2 ⟨rfl, hu2⟩
    have HBV := Lib.hid (bch HBU.out hu2)
    clear c0 c1 c2 c3 c4 cf hu2
    rcases hlaw with ⟨le, lr⟩ | ⟨le, lr, ln⟩
    · rw [le]
      obtain ⟨l1, l2⟩ := lr
      subst l1 l2
      have qee : (e2 == e2) = true := by simp
      clear le
      go_wp2_with fail
      refine (law17_lives _).mono ?_
      rintro e u3 ⟨rfl, hu3⟩
      have HBX := Lib.hid (bch HBV.out hu3)
      clear hu3
      go_wp2_with fail
      go_ret
      exact ⟨rfl, HBX.out⟩
    · rw [le]
      obtain ⟨l1, l2⟩ := lr
      rw [l1, l2]
      have qn : (e1 == 18) = false := by rw [beq_eq_false_iff_ne]; exact ln
      clear le l1 l2 ln
      go_wp2_with fail
      all_goals
        refine (law17_lives _).mono ?_
        rintro e u3 ⟨rfl, hu3⟩
        have HBX := Lib.hid (bch HBV.out hu3)
        clear hu3
        go_wp2_with fail
        go_ret
        exact ⟨rfl, HBX.out⟩
  · have hqe := HQN.out hext
    have HIQ : Hid (IrRep (w4.alloc (.cells #[.int .i64 p.temps, (.slice AA p.arrays.length ac), .slice LA p.blocks.length lc, .int .i64 p.inp, .int .i64 p.out] 25)) (w4.alloc (.cells #[.int .i64 p.temps, (.slice AA p.arrays.length ac), .slice LA p.blocks.length lc, .int .i64 p.inp, .int .i64 p.out] 25)).heap.size (turnAll p) (.slice AA p.arrays.length ac) (.slice LA p.blocks.length lc)) := Lib.hid (by rw [hqe]; exact ⟨HAR5.out, by have h := HBL5.out.rep; exact h⟩)
    replace HQR := Lib.hid (HQR.out (.slice AA p.arrays.length ac) (.slice LA p.blocks.length lc))
    replace HQC := Lib.hid (HQC.out (.slice AA p.arrays.length ac) (.slice LA p.blocks.length lc))
    have hfl : irVal (turnAll p) (.slice AA p.arrays.length ac) (.slice LA p.blocks.length lc) = .agg #[.int .i64 p.temps, (.slice AA p.arrays.length ac), .slice LA p.blocks.length lc, .int .i64 p.inp, .int .i64 p.out] := by rw [hqe]; rfl
    rw [hfl] at HQR HQC
    generalize irRun (turnAll p) input budget = r2 at *
    obtain ⟨s2, e2⟩ := r2
    have hlaw := hlaw2
    simp only [Prod.mk.injEq] at hlaw
    generalize irErr (turnAll p) = qe at *
    clear hlaw2 hqe hfl HQN HQE
    have hx' : 1000 ≤ (p.blocks.length : Int) ∨ ((p.blocks.length : Int) < 1000 ∧ 1000 ≤ p.temps) := by omega
    rcases hx' with hx1 | ⟨hx1, hx2⟩
    · go_wp2_with fail
      generalize w4.alloc (.cells #[.int .i64 p.temps, (.slice AA p.arrays.length ac), .slice LA p.blocks.length lc, .int .i64 p.inp, .int .i64 p.out] 25) = w5 at *
      refine (HQR.out _ HIQ.out).mono ?_
      rintro e u1 ⟨rfl, hu1⟩
      have hxq := (hu1.block _ (lt_of_blk HX5.out)).trans HX5.out
      obtain ⟨c0, c1, c2, c3, c4, cf⟩ := ir_cells_at hxq
      have HIU := Lib.hid (IrRep.next HIQ.out hu1)
      have HBU := Lib.hid (bch HB5.out hu1)
      clear hu1 hxq
      go_wp2_with fail
      refine (HQC.out _ HIU.out).mono ?_
      rintro e u2 ⟨rfl, hu2⟩
      have HBV := Lib.hid (bch HBU.out hu2)
      clear c0 c1 c2 c3 c4 cf hu2
      rcases hlaw with ⟨le, lr⟩ | ⟨le, lr, ln⟩
      · rw [le]
        obtain ⟨l1, l2⟩ := lr
        subst l1 l2
        have qee : (e2 == e2) = true := by simp
        clear le
        go_wp2_with fail
        refine (law17_lives _).mono ?_
        rintro e u3 ⟨rfl, hu3⟩
        have HBX := Lib.hid (bch HBV.out hu3)
        clear hu3
        go_wp2_with fail
        go_ret
        exact ⟨rfl, HBX.out⟩
      · rw [le]
        obtain ⟨l1, l2⟩ := lr
        rw [l1, l2]
        have qn : (e1 == 18) = false := by rw [beq_eq_false_iff_ne]; exact ln
        clear le l1 l2 ln
        go_wp2_with fail
        all_goals
          refine (law17_lives _).mono ?_
          rintro e u3 ⟨rfl, hu3⟩
          have HBX := Lib.hid (bch HBV.out hu3)
          clear hu3
          go_wp2_with fail
          go_ret
          exact ⟨rfl, HBX.out⟩
    · go_wp2_with fail
      generalize w4.alloc (.cells #[.int .i64 p.temps, (.slice AA p.arrays.length ac), .slice LA p.blocks.length lc, .int .i64 p.inp, .int .i64 p.out] 25) = w5 at *
      refine (HQR.out _ HIQ.out).mono ?_
      rintro e u1 ⟨rfl, hu1⟩
      have hxq := (hu1.block _ (lt_of_blk HX5.out)).trans HX5.out
      obtain ⟨c0, c1, c2, c3, c4, cf⟩ := ir_cells_at hxq
      have HIU := Lib.hid (IrRep.next HIQ.out hu1)
      have HBU := Lib.hid (bch HB5.out hu1)
      clear hu1 hxq
      go_wp2_with fail
      refine (HQC.out _ HIU.out).mono ?_
      rintro e u2 ⟨rfl, hu2⟩
      have HBV := Lib.hid (bch HBU.out hu2)
      clear c0 c1 c2 c3 c4 cf hu2
      rcases hlaw with ⟨le, lr⟩ | ⟨le, lr, ln⟩
      · rw [le]
        obtain ⟨l1, l2⟩ := lr
        subst l1 l2
        have qee : (e2 == e2) = true := by simp
        clear le
        go_wp2_with fail
        refine (law17_lives _).mono ?_
        rintro e u3 ⟨rfl, hu3⟩
        have HBX := Lib.hid (bch HBV.out hu3)
        clear hu3
        go_wp2_with fail
        go_ret
        exact ⟨rfl, HBX.out⟩
      · rw [le]
        obtain ⟨l1, l2⟩ := lr
        rw [l1, l2]
        have qn : (e1 == 18) = false := by rw [beq_eq_false_iff_ne]; exact ln
        clear le l1 l2 ln
        go_wp2_with fail
        all_goals
          refine (law17_lives _).mono ?_
          rintro e u3 ⟨rfl, hu3⟩
          have HBX := Lib.hid (bch HBV.out hu3)
          clear hu3
          go_wp2_with fail
          go_ret
          exact ⟨rfl, HBX.out⟩
set_option maxHeartbeats 8000000 in
theorem walk (p : Ir) (av bv : Value) (v0 : Value) (hv : v0 = irVal p av bv) (hf : p.fine) (input : ByteArray) (hsz : input.size ≤ maxLen) (budget : Int) (w : World) (hI : IrRep w w.heap.size p av bv) :
    Calls Try.prog 12 #[v0, .string input, .int .i64 budget] w fun e w' => e = .returned (.bool true) ∧ Below w.heap.size w w' := by
  subst hv
  by_cases hb : 0 ≤ budget ∧ budget ≤ 3000
  · by_cases he : irErr p = 0
    · exact good p av bv hf input hsz budget hb.1 hb.2 he w hI
    · exact bad p av bv hf input budget hb.1 hb.2 he w hI
  · exact far p av bv input budget (by omega) w

theorem own : ownKnob Try.prog.godebug = none := by kernel_rfl
set_option maxRecDepth 100000 in
theorem lifted (os : Os) (started : os.Started) (H : Type) (enc : TypeId × Value → H) :
    ReturnsInHanded {} Try.checked os 12 .any (Rows.irTurnedSpec.pre6 enc Try.prog Try.f12 Rows.irTurnedRow.domain false) (Rows.irTurnedSpec.post enc Try.prog Try.f12 false true false false) := by
  refine returnsInHanded_of_change_sized (C := Try.checked) own started (by kernel_rfl) Try.func12
    (ChangeSpec.witness6 (enc := enc) (C := Try.checked) false ⟨#[], #[.agg #[.int .i64 0, .slice none 0 0, .slice none 0 0, .int .i64 0, .int .i64 0], .string ⟨#[]⟩, .int .i64 0], []⟩ 8 (by kernel_rfl) (by kernel_rfl) (by kernel_rfl) (by kernel_rfl)) ?_
  intro W base args ds gs before hval0 hW hcnd hsz _
  have hval : ∀ (j : Nat) t v, Try.f12.params[j]? = some t → args[j]? = some v → Value.okWide Try.prog W .any base t v := hval0
  have hW' := hW
  obtain ⟨p, q, hA0, hV, rfl, hfz, hnd⟩ := hW
  have hA : DataW.TrodAll enc Try.prog W 0 (fun _ => true) true Try.f12.params.toList args.toList ds p := hA0
  rw [Try.params12] at hA hval
  obtain ⟨v0, vs0, d0, ds0, p0, q0, hargs, rfl, rfl, h0, r0⟩ := trodAll_cons hA
  obtain ⟨v1, vs1, d1, ds1, p1, q1, rfl, rfl, rfl, h1, r1⟩ := trodAll_cons r0
  obtain ⟨v2, vs2, d2, ds2, p2, q2, rfl, rfl, rfl, h2, r2⟩ := trodAll_cons r1
  obtain ⟨rfl, rfl, rfl⟩ := trodAll_nil r2
  obtain rfl : args = #[v0, v1, v2] := by cases args; simp_all
  obtain ⟨rfl, rfl⟩ := trodVars_none hV
  clear hA0 hval0
  obtain ⟨p, av, bv, hv, hI, hf⟩ := open_ir (hval 0 25 v0 rfl rfl) h0 (fun x hx => by simpa using hW'.lt x (by simp [hx])) (weights_of hsz 0 rfl rfl)
  obtain ⟨input, rfl, rfl, rfl, w1⟩ := Go.ChangeMaps.open_string Try.underlying9 (hval 1 9 v1 rfl rfl) h1
  obtain ⟨budget, rfl, rfl, rfl, w2⟩ := open_int Try.underlying3 (hval 2 3 v2 rfl rfl) h2
  refine (walk p av bv v0 hv hf input w1 budget W hI).mono fun e W' ⟨he, hg⟩ => ?_
  subst he
  exact ⟨_, rfl, law_post (by kernel_rfl) (by kernel_rfl) rfl (by kernel_rfl) Try.underlying4 rfl hW' hg⟩

theorem proved : Rows.IrTurnedSaid :=
  OpenClaim.holds_of_wide 12 Try.f12 rfl rfl rfl rfl rfl rfl rfl ⟨rfl, rfl, rfl, rfl, rfl⟩ rfl rfl rfl rfl rfl (by kernel_rfl) Try.func12 (by kernel_rfl)
    (of_decide_eq_true (by kernel_rfl)) (by unfold Func.isWrapper; first | (rw [if_pos (by decide +kernel)]; kernel_rfl) | (rw [if_neg (by decide +kernel)]; exact ⟨rfl, rfl⟩))
    (fun os started H enc _ => lifted os started H enc)
#print axioms proved
end Go.Proofs.Ytiaimceefkdchaa.irTurned
