/- Contract of ir.Run: a run that begins. No condition but those that the theorem names. -/
import Derived.Test.YtiaimceefkdchaaRunI
namespace Go.Proofs.Ytiaimceefkdchaa
open Go.RowKit
set_option linter.unusedVariables false
theorem opVal_cells (o : Opn) : opVal o = .agg #[.int .i64 o.kind, .int .i64 o.dst, .int .i64 o.a, .int .i64 o.b, .int .i64 o.c, .int .i64 o.imm] := rfl
set_option maxRecDepth 100000 in
set_option maxHeartbeats 16000000 in
theorem run_go (p : Ir) (av bv : Value) (hf : p.fine) (input : ByteArray) (budget : Int) (w : World) (hI : IrRep w w.heap.size p av bv) (he : irErr p = 0) (hin : (input.size : Int) = p.inp) (hb0 : 0 ≤ budget) (hb1 : budget ≤ 67108864) :
    Calls Try.prog 43 #[irVal p av bv, .string input, .int .i64 budget] w (RunPost (runP p budget.toNat 0 0 (startP p input)) w) := by
  have HC := Lib.hid (fun W h => ir_Check p av bv hf W h)
  have HW := Lib.hid (fun W => ir_within budget 0 67108864 W)
  obtain ⟨hng, hm⟩ := irErr_ok he
  obtain ⟨⟨⟨hi0, hi1, _⟩, ⟨ho0, ho1, _⟩, hT0, hnb⟩, hae, hbl⟩ := hm
  have hALL := arrEnd_all p.inp p.out p.arrays 0 hae
  have HSH : Hid (∀ a ∈ p.arrays, shapedP a) := Lib.hid (fun a ha => (hALL a ha).1)
  have HBL := Lib.hid hbl
  unfold greatP at hng
  have hrs := railSum_nonneg p.arrays
  have hT1 : p.temps ≤ 1048576 := by omega
  have hn1 : p.arrays.length ≤ 1048576 := by omega
  have hn2 : p.blocks.length ≤ 1048576 := by omega
  have HOPS : Hid (∀ k, k < p.blocks.length → (p.blocks.getD k blkNone).ops.length ≤ 1048576) := Lib.hid (fun k hk => by
    have h1 := opsSum_step p.blocks k hk
    have h2 := opsSum_take p.blocks (k + 1)
    omega)
  have hnb1 : 0 < p.blocks.length := List.length_pos_iff.2 hnb
  obtain ⟨hRA, hRB⟩ := hI
  obtain ⟨AA, ac, rfl, hac⟩ := hRA.form
  obtain ⟨BA, bc, rfl, hbc⟩ := hRB.form
  have HI := Lib.hid (show IrRep w w.heap.size p _ _ from ⟨hRA, hRB⟩)
  have HST := Lib.hid (fun W h => run_start p AA ac (.slice BA p.blocks.length bc) he input hin W h)
  have HOU := Lib.hid (fun B M gt gs aav s hf W hR hA => run_output p AA ac (.slice BA p.blocks.length bc) he B M gt gs aav s hf W hR hA)
  have HOPN := Lib.hid (fun o ho B M gt gs aav s hf W hR hA => run_op p AA ac (.slice BA p.blocks.length bc) o ho B M gt gs aav s hf ⟨hT0, hT1⟩ hn1 HSH.out W hR hA)
  have HNX := Lib.hid (fun t ht B M gt gs aav s hf W hR => run_next p (.slice AA p.arrays.length ac) (.slice BA p.blocks.length bc) t ht B M gt gs aav s hf hT1 W hR)
  rw [decide_eq_true (show 0 ≤ budget ∧ budget ≤ 67108864 from ⟨hb0, hb1⟩)] at HW
  rw [he] at HC
  have hsz : input.size ≤ 65536 := by omega
  have q : ((input.size : Int) != p.inp) = false := by rw [bne_eq_false_iff_eq]; exact hin
  have HIN := Lib.hid hin
  obtain ⟨N, rfl⟩ : ∃ N : Nat, budget = (N : Int) := ⟨budget.toNat, by omega⟩
  have hfs := fit_start p input
  have HFS := Lib.hid hfs
  rw [Int.toNat_natCast]
  generalize hRES : runP p N 0 0 (startP p input) = RES
  have HRES := Lib.hid hRES
  unfold irVal at HC HST ⊢
  generalize hPO : RunPost RES w = PO
  have HPO := Lib.hid hPO
  clear hfs hng hae hALL hbl hrs hRA hRB he hin hf hnb hb0 hRES hPO
  go_enter Try.func43, Try.ntmps43
  go_wp2_with fail
  refine (HC.out _ (HI.out.next (bnew _ _))).mono ?_
  rintro e w2 ⟨rfl, hb⟩
  have hx := (hb.block w.heap.size (by simp)).trans (heap_alloc_new w _)
  have c0 : w2.cell? ⟨w.heap.size, 0, none⟩ = some (.int .i64 p.temps) := (cell_of_blk hx 0).1
  have c1 : w2.cell? ⟨w.heap.size, 1, none⟩ = some (.slice AA p.arrays.length ac) := (cell_of_blk hx 1).1
  have c2 : w2.cell? ⟨w.heap.size, 2, none⟩ = some (.slice BA p.blocks.length bc) := (cell_of_blk hx 2).1
  have c3 : w2.cell? ⟨w.heap.size, 3, none⟩ = some (.int .i64 p.inp) := (cell_of_blk hx 3).1
  have c4 : w2.cell? ⟨w.heap.size, 4, none⟩ = some (.int .i64 p.out) := (cell_of_blk hx 4).1
  have HB2 := Lib.hid (bch (bnew _ _) hb)
  have HX2 := Lib.hid hx
  clear hb hx
  go_wp2_with fail
  refine (HW.out _).mono ?_
  rintro e w3 ⟨rfl, rfl⟩
  go_wp2_with fail
  refine (HST.out _ (HI.out.next HB2.out)).mono ?_
  rintro e w3 ⟨M, gt, gs, aav, rfl, hR, hb3⟩
  have HB3 := Lib.hid hb3
  have hM2 := hR.bM
  have HM : Hid (w.heap.size < w2.heap.size) := Lib.hid (lt_of_blk HX2.out)
  have HR := Lib.hid hR
  clear hb3 hR c0 c1 c2 c3 c4
  go_wp2_with fail
  go_loopw [2, 10] (fun vb va wr => ∃ (n : Nat) (at_ : Int) (s : St), n ≤ N ∧ vb = .int .i64 n ∧ va = .int .i64 at_ ∧ labelP p at_ ∧ RunAt wr w2.heap.size M gt gs aav p (.slice AA p.arrays.length ac) (.slice BA p.blocks.length bc) s ∧ Fit p s ∧ Below w2.heap.size w2 wr ∧ runP p n at_ 0 s = RES) (fun vb _ _ => (intOf vb).toNat)
  case atStart => exact ⟨N, 0, startP p input, Nat.le_refl _, rfl, rfl, ⟨by omega, by omega⟩, HR.out, HFS.out, HB3.out, HRES.out⟩
  case round =>
    obtain ⟨n, at_, s, hnN, rfl, rfl, ⟨hl0, hl1⟩, hR1, hF1, hBW, hRE⟩ := hrel
    have HR1 := Lib.hid hR1
    have HF1 := Lib.hid hF1
    have HBW := Lib.hid hBW
    have HRE := Lib.hid hRE
    by_cases hat : at_ = -1
    · subst hat
      have hr := HRE.out
      rw [runP_none] at hr
      have HRR := Lib.hid hr
      clear hR1 hF1 hRE hr hl0 hl1
      go_wp2_with fail
      rw [← HPO.out, ← HRR.out]
      exact ⟨rfl, HB2.out.trans (hBW.mono HB2.out.size)⟩
    · have qa : (at_ != -1) = true := by rw [bne_iff_ne]; exact hat
      obtain ⟨a, rfl⟩ : ∃ a : Nat, at_ = (a : Int) := ⟨at_.toNat, by omega⟩
      have ha : a < p.blocks.length := by omega
      have hbw := HB2.out.trans (hBW.mono HB2.out.size)
      obtain ⟨b, off, rfl, hb0, OA, oc, hops, hoc, x0, x1, x2, x3, x4⟩ := blk_at HI.out.2 a ha
      have hcw : ∀ o, wr.cell? ⟨b, o, none⟩ = w.cell? ⟨b, o, none⟩ := fun o => hbw.cell (p := ⟨b, o, none⟩) hb0
      rw [← hcw] at x0 x1 x2 x3 x4
      have hops1 := HOPS.out a ha
      obtain ⟨hop, htrm⟩ := HBL.out _ (getD_memI p.blocks a blkNone ha)
      have hx2 := (hBW.block _ (lt_of_blk HX2.out)).trans HX2.out
      have c2 : wr.cell? ⟨w.heap.size, 2, none⟩ = some (.slice (some ⟨b, off, none⟩) p.blocks.length bc) := (cell_of_blk hx2 2).1
      have HHN := Lib.hid (fun m j s => runP_op_none (p := p) (at_ := (a : Int)) (j := j) (m := m) (s := s))
      have HHS := Lib.hid (fun m j s s' => runP_op_some (p := p) (at_ := (a : Int)) (j := j) (m := m) (s := s) (s' := s'))
      have HHT := Lib.hid (fun m s => runP_halt (p := p) (at_ := (a : Int)) (m := m) (s := s))
      have HHX := Lib.hid (fun m s => runP_next (p := p) (at_ := (a : Int)) (m := m) (s := s))
      rw [Int.toNat_natCast] at HHN HHS HHT HHX
      have HTL := Lib.hid (fun hk ts => nextP_label htrm hk ts)
      have HTM := Lib.hid htrm
      have HOP := Lib.hid hop
      generalize p.blocks.getD a blkNone = bk at *
      obtain ⟨ops, trm⟩ := bk
      obtain ⟨tk, ta, ty, tn⟩ := trm
      simp only at hops hoc x0 x1 x2 x3 x4 hops1
      have k0 : (0 : Int) ≤ (a : Int) := by omega
      have k1 : (a : Int) < (p.blocks.length : Int) := by omega
      have hbA := bnew wr (.cells #[.slice OA ops.length oc, .int .i64 tk, .int .i64 ta, .int .i64 ty, .int .i64 tn] 55)
      have hxA := heap_alloc_new wr (.cells #[.slice OA ops.length oc, .int .i64 tk, .int .i64 ta, .int .i64 ty, .int .i64 tn] 55)
      have HRA := Lib.hid (hR1.below hbA)
      have HBA := Lib.hid (hBW.trans (hbA.mono hBW.size))
      have HXA := Lib.hid hxA
      have HOA := Lib.hid hops
      have HA0 : Hid (w2.heap.size ≤ wr.heap.size) := Lib.hid hBW.size
      have HBWQ := Lib.hid hbA
      clear hR1 hF1 hBW hRE hcw hbw hx2 hbA hxA hops hop htrm
      go_wp2_with fail
      generalize wr.alloc (.cells #[.slice OA ops.length oc, .int .i64 tk, .int .i64 ta, .int .i64 ty, .int .i64 tn] 55) = wA at *
      obtain ⟨wq, rfl⟩ : ∃ wq : World, wq = wr := ⟨_, rfl⟩
      clear x0 x1 x2 x3 x4 c2
      have HARR : Hid (SlRep arrEnc w2 w2.heap.size (.slice AA p.arrays.length ac) p.arrays) := Lib.hid (HI.out.1.next HB2.out)
      have HNG : Hid (wq.heap.size ≠ gt ∧ wq.heap.size ∉ gs) := Lib.hid ⟨fun e => by have := lt_of_blk HR1.out.tmp; omega, fun hm => by
        obtain ⟨i, hi, hie⟩ := List.getElem_of_mem hm
        have := lt_of_blk (HR1.out.mem i hi)
        rw [List.getD_eq_getElem?_getD, List.getElem?_eq_getElem hi] at this
        simp at this
        omega⟩
      go_loopw [2, 42] (fun vb vi wr => ∃ (m j : Nat) (s' : St), m ≤ n ∧ j ≤ ops.length ∧ vb = .int .i64 m ∧ vi = .int .i64 j ∧ RunAt wr w2.heap.size M gt gs aav p (.slice AA p.arrays.length ac) (.slice (some ⟨b, off, none⟩) p.blocks.length bc) s' ∧ Fit p s' ∧ Below w2.heap.size w2 wr ∧ wr.heap[wq.heap.size]? = some (.cells #[.slice OA ops.length oc, .int .i64 tk, .int .i64 ta, .int .i64 ty, .int .i64 tn] 55 (0, 0)) ∧ runP p m a j s' = RES) (fun _ vi _ => ops.length - (intOf vi).toNat)
      case atStart => exact ⟨n, 0, s, Nat.le_refl _, Nat.zero_le _, rfl, rfl, HRA.out, HF1.out, HBA.out, HXA.out, HRE.out⟩
      case round =>
        obtain ⟨m, j, s', hmn, hjl, rfl, rfl, hR2, hF2, hBJ, hXJ, hRJ⟩ := hrel
        have HR2 := Lib.hid hR2
        have HF2 := Lib.hid hF2
        have HBJ := Lib.hid hBJ
        have HXJ := Lib.hid hXJ
        have HRJ := Lib.hid hRJ
        have hxl := lt_of_blk hXJ
        have hm0 : (0 : Int) ≤ (m : Int) := by omega
        have hmN : (m : Int) ≤ 67108864 := by omega
        by_cases hjlt : j < ops.length
        · have hbj := HB2.out.trans (hBJ.mono HB2.out.size)
          obtain ⟨ob, ooff, rfl, hob, y0, y1, y2, y3, y4, y5⟩ := op_at HOA.out j hjlt
          have hcj : ∀ o, wr.cell? ⟨ob, o, none⟩ = w.cell? ⟨ob, o, none⟩ := fun o => hbj.cell (p := ⟨ob, o, none⟩) hob
          rw [← hcj] at y0 y1 y2 y3 y4 y5
          have HOPJ := Lib.hid (HOP.out _ (getD_memI ops j opNone hjlt))
          have HHN2 := Lib.hid (fun m' hs => HHN.out m' j s' hat hjlt hs)
          have HHS2 := Lib.hid (fun m' s'' hs => HHS.out m' j s' s'' hat hjlt hs)
          have j0 : (0 : Int) ≤ (j : Int) := by omega
          have j1 : (j : Int) < (ops.length : Int) := by omega
          generalize ops.getD j opNone = o at *
          have HCALL := Lib.hid (fun W hR hA => HOPN.out o HOPJ.out w2.heap.size M gt gs aav s' hF2 W hR hA)
          rw [opVal_cells] at HCALL
          have hbo := bnew wr (.cells #[.int .i64 o.kind, .int .i64 o.dst, .int .i64 o.a, .int .i64 o.b, .int .i64 o.c, .int .i64 o.imm] 58)
          have HRO := Lib.hid (hR2.below hbo)
          have HBO := Lib.hid (hBJ.trans (hbo.mono hBJ.size))
          have HXO := Lib.hid ((hbo.block _ hxl).trans hXJ)
          clear hcj hbj hR2 hF2 hBJ hXJ hRJ hbo
          by_cases hmz : m = 0
          · subst hmz
            have hr := HRJ.out
            rw [runP_zero _ _ _ _ hat] at hr
            have HRR := Lib.hid hr
            have hz : ((0 : Nat) : Int) = 0 := rfl
            rw [hz]
            clear hr hz
            go_wp2_with fail
            rw [← HPO.out, ← HRR.out]
            exact ⟨rfl, HB2.out.trans (HBO.out.mono HB2.out.size)⟩
          · obtain ⟨m', hm'⟩ : ∃ m', m = m' + 1 := ⟨m - 1, by omega⟩
            have qm : ((m : Int) == 0) = false := by rw [beq_eq_false_iff_ne]; omega
            have HEM : Hid ((m : Int) - 1 = (m' : Int)) := Lib.hid (by omega)
            have HM' := Lib.hid hm'
            rw [hm'] at HRJ
            clear hm' hmz
            go_wp2_with fail
            generalize wr.alloc (.cells #[.int .i64 o.kind, .int .i64 o.dst, .int .i64 o.a, .int .i64 o.b, .int .i64 o.c, .int .i64 o.imm] 58) = wO at *
            refine (HCALL.out _ HRO.out (HARR.out.below HBO.out (Nat.le_refl _))).mono ?_
            intro e w4 hpost
            cases hst : stepP p s' o with
            | none =>
              rw [hst] at hpost
              obtain ⟨rfl, hR4, hB4, hK4⟩ := hpost
              have hr := HRJ.out
              rw [HHN2.out m' hst] at hr
              have HRR := Lib.hid hr
              have HB4 := Lib.hid (HBO.out.trans hB4)
              clear hr hR4 hB4 hK4 hst
              go_wp2_with fail
              rw [← HPO.out, ← HRR.out]
              exact ⟨rfl, HB2.out.trans (HB4.out.mono HB2.out.size)⟩
            | some s'' =>
              rw [hst] at hpost
              obtain ⟨rfl, hR4, hB4, hK4⟩ := hpost
              have hr := HRJ.out
              rw [HHS2.out m' s'' hst] at hr
              have HRR := Lib.hid hr
              have HB4 := Lib.hid (HBO.out.trans hB4)
              have HR4 := Lib.hid hR4
              have HX4 := Lib.hid ((hK4 _ (lt_of_blk HXO.out) HNG.out.1 HNG.out.2).trans HXO.out)
              have HF4 := Lib.hid (fit_step HF2.out hst)
              clear hr hR4 hB4 hK4 hst
              go_wp2_with fail
              go_roundw
              case rel => exact ⟨m', j + 1, s'', by have := HM'.out; omega, by omega, by rw [HEM.out], by go_num, HR4.out, HF4.out, HB4.out, HX4.out, HRR.out⟩
              case measure => simp [intOf]; omega
        · obtain rfl : j = ops.length := by omega
          have b1 : wr.cell? ⟨wq.heap.size, 1, none⟩ = some (.int .i64 tk) := (cell_of_blk hXJ 1).1
          have b2 : wr.cell? ⟨wq.heap.size, 2, none⟩ = some (.int .i64 ta) := (cell_of_blk hXJ 2).1
          have b3 : wr.cell? ⟨wq.heap.size, 3, none⟩ = some (.int .i64 ty) := (cell_of_blk hXJ 3).1
          have b4 : wr.cell? ⟨wq.heap.size, 4, none⟩ = some (.int .i64 tn) := (cell_of_blk hXJ 4).1
          have HHT2 := Lib.hid (fun m' hk => HHT.out m' s' hat hk)
          have HHX2 := Lib.hid (fun m' hk => HHX.out m' s' hat hk)
          clear hR2 hF2 hBJ hXJ hRJ
          by_cases hmz : m = 0
          · subst hmz
            have hr := HRJ.out
            rw [runP_zero _ _ _ _ hat] at hr
            have HRR := Lib.hid hr
            have hz : ((0 : Nat) : Int) = 0 := rfl
            rw [hz]
            clear hr hz
            go_wp2_with fail
            rw [← HPO.out, ← HRR.out]
            exact ⟨rfl, HB2.out.trans (HBJ.out.mono HB2.out.size)⟩
          · obtain ⟨m', hm'⟩ : ∃ m', m = m' + 1 := ⟨m - 1, by omega⟩
            have qm : ((m : Int) == 0) = false := by rw [beq_eq_false_iff_ne]; omega
            have HEM : Hid ((m : Int) - 1 = (m' : Int)) := Lib.hid (by omega)
            have HM' := Lib.hid hm'
            rw [hm'] at HRJ
            clear hm' hmz
            by_cases hk3 : tk = 3
            · subst hk3
              have hr := HRJ.out
              rw [HHT2.out m' rfl] at hr
              have HRR := Lib.hid hr
              clear hr
              go_wp2_with fail
              refine (HOU.out _ _ _ _ _ _ HF2.out _ HR2.out (HARR.out.below HBJ.out (Nat.le_refl _))).mono ?_
              rintro e w4 ⟨rfl, hb4⟩
              have HB4 := Lib.hid (HBJ.out.trans (hb4.mono HBJ.out.size))
              clear hb4
              go_wp2_with fail
              rw [← HPO.out, ← HRR.out]
              exact ⟨rfl, HB2.out.trans (HB4.out.mono HB2.out.size)⟩
            · have q3 : (tk == 3) = false := by rw [beq_eq_false_iff_ne]; exact hk3
              have hr := HRJ.out
              rw [HHX2.out m' hk3] at hr
              have HRR := Lib.hid hr
              have HLB := Lib.hid (HTL.out hk3 s'.ts)
              have htt : tk = 1 ∨ (0 ≤ ta ∧ ta < p.temps) := by
                rcases HTM.out with ⟨h, _⟩ | ⟨_, h, _⟩ | ⟨h, _⟩
                · exact Or.inl h
                · exact Or.inr h
                · exact absurd h hk3
              have HCN := Lib.hid (HNX.out ⟨tk, ta, ty, tn⟩ htt w2.heap.size M gt gs aav s' HF2.out wr HR2.out)
              unfold trmVal at HCN
              clear hr htt hk3
              generalize nextP s'.ts ⟨tk, ta, ty, tn⟩ = nx at *
              go_wp2_with fail
              refine HCN.out.mono ?_
              rintro e w4 ⟨rfl, hb4⟩
              have HB4 := Lib.hid (HBJ.out.trans (hb4.mono HBJ.out.size))
              have HR4 := Lib.hid (HR2.out.below hb4)
              clear hb4
              go_wp2_with fail
              go_roundw
              case rel => exact ⟨m', nx, s', by have := HM'.out; omega, by rw [HEM.out], rfl, HLB.out, HR4.out, HF2.out, HB4.out, HRR.out⟩
              case measure => have := HM'.out; simp [intOf]; omega
end Go.Proofs.Ytiaimceefkdchaa
