/- The Go function CopiesNone returns true on every input and leaves its arguments as they were. No condition. -/
import Derived.Test.YtiaimceefkdchaaRows
import Derived.WalkKit
import Derived.ProofKit
import Derived.OpenShut
import Derived.Test.YtiaimceefkdchaaLawKit
import Derived.SizedLaws
import Derived.Test.YtiaimceefkdchaaLive20
import Derived.Test.YtiaimceefkdchaaStale
namespace Go.Proofs.Ytiaimceefkdchaa.copiesNone
open Go.ChangeShapes Go.WideShapes Go.ChangeAt Go.RowKit
set_option linter.unusedVariables false

theorem slRep_take {T : Type} {E : Enc T} {w : World} {B : Nat} {A : Option Addr} {c : Nat} {l : List T} (h : SlRep E w B (.slice A l.length c) l) (k : Nat) (hk : k ≤ l.length) : SlRep E w B (.slice A (l.take k).length c) (l.take k) := by
  obtain ⟨A', c', e, hc, h⟩ := h
  injection e with e
  subst e
  refine ⟨A, c', by simp_all, by rw [List.length_take]; omega, fun j t hj => ?_⟩
  refine h j t ?_
  rw [List.getElem?_take] at hj
  split at hj
  · exact hj
  · cases hj
theorem take_cp (l : List Opn) (j : Nat) (h : j ≤ l.length) : (cpList l).2.take j = (cpList (l.take j)).2 := by
  have e : cpList l = (l.drop j).foldl cpStep (cpList (l.take j)) := by
    unfold cpList
    rw [← List.foldl_append, List.take_append_drop]
  obtain ⟨m, hm⟩ := cpFold_pre (l.drop j) (cpList (l.take j))
  have hl := cpList_len (l.take j)
  rw [List.length_take, Nat.min_eq_left h] at hl
  rw [e, hm, List.take_append_of_le_length (by omega), List.take_of_length_le (by omega)]
def GoodB (b : Blk) : Prop := (∀ j, j < b.ops.length → ∀ m, m < fSrc (b.ops.getD j opNone).kind → staleB (b.ops.take j) ([(b.ops.getD j opNone).a, (b.ops.getD j opNone).b, (b.ops.getD j opNone).c].getD m 0) = false) ∧ (b.term.kind = 2 → staleB b.ops b.term.a = false)
theorem good_blk {p : Ir} {b : Blk} (hb : blkP p b) : GoodB (cpBlk b) := by
  obtain ⟨hop, htr⟩ := hb
  refine ⟨fun j hj m hm => ?_, fun hk => ?_⟩
  · have hj : j < (cpList b.ops).2.length := hj
    rw [cpList_len] at hj
    have hat : (cpBlk b).ops.getD j opNone = cpOp (cpList (b.ops.take j)).1 (b.ops.getD j opNone) := cpList_at b.ops j hj
    have ht : (cpBlk b).ops.take j = (cpList (b.ops.take j)).2 := take_cp b.ops j (by omega)
    have hst := fun t => cp_unstale (p := p) (l := b.ops.take j) (fun o h => hop o (List.mem_of_mem_take h)) t
    rw [hat] at hm ⊢
    rw [ht]
    generalize b.ops.getD j opNone = o at *
    have hm : m < fSrc o.kind := hm
    have h3 := fSrc_le o.kind
    unfold cpOp
    match m, hm with
    | 0, hm => show staleB _ (if 0 < fSrc o.kind then _ else _) = _; rw [if_pos hm]; exact hst _
    | 1, hm => show staleB _ (if 1 < fSrc o.kind then _ else _) = _; rw [if_pos hm]; exact hst _
    | 2, hm => show staleB _ (if 2 < fSrc o.kind then _ else _) = _; rw [if_pos hm]; exact hst _
    | m + 3, hm => omega
  · have hk : b.term.kind = 2 := hk
    show staleB (cpList b.ops).2 (if b.term.kind = 2 then cpOf (cpList b.ops).1 b.term.a else b.term.a) = false
    rw [if_pos hk]
    exact cp_unstale (p := p) hop _
theorem cp_good {p : Ir} (he : irErr p = 0) : ∀ k, k < (cpIr p).blocks.length → GoodB ((cpIr p).blocks.getD k blkNone) := by
  intro k hk
  obtain ⟨c, hc, e⟩ := List.mem_map.1 (show (cpIr p).blocks.getD k blkNone ∈ p.blocks.map cpBlk from getD_memI _ _ _ hk)
  rw [← e]
  exact good_blk ((irErr_ok he).2.2.2 c hc)
theorem run_cut (b off n c j : Nat) (h : j ≤ c) (W : World) : (Instr.slice 51 (.slice (some ⟨b, off, none⟩) n c) none (some (.int .i64 (j : Int))) none).run Try.prog W = .ok (.slice (some ⟨b, off, none⟩) j c) W := by
  have q2 : (j : Int) ≤ c := by omega
  simp [go_sem, q2]
set_option maxRecDepth 100000 in
set_option maxHeartbeats 8000000 in
theorem bad (p : Ir) (av bv : Value) (hf : p.fine) (he : irErr p ≠ 0) (w : World) (hI : IrRep w w.heap.size p av bv) : Calls Try.prog 7 #[irVal p av bv] w fun e w' => e = .returned (.bool true) ∧ Below w.heap.size w w' := by
  have HFW := Lib.hid (fun W h => law20_few p av bv hf W h)
  have HCP := Lib.hid (fun W h => cop_Copies_bad p av bv hf he W h)
  have q : (irErr p != 0) = true := by rw [bne_iff_ne]; exact he
  unfold irVal at HFW HCP ⊢
  unfold PassPost irZero at HCP
  unfold FewPost at HFW
  simp only [List.length_nil] at HCP
  generalize irErr p = fe at *
  have HX := Lib.hid (heap_alloc_new w (.cells #[.int .i64 p.temps, av, bv, .int .i64 p.inp, .int .i64 p.out] 25))
  have hb := bnew w (.cells #[.int .i64 p.temps, av, bv, .int .i64 p.inp, .int .i64 p.out] 25)
  have HIW := Lib.hid (hI.next hb)
  have HB := Lib.hid hb
  clear hI he hf hb
  go_enter Try.func7, Try.ntmps7
  go_wp2_with fail
  generalize w.alloc (.cells #[.int .i64 p.temps, av, bv, .int .i64 p.inp, .int .i64 p.out] 25) = w1 at *
  refine (HFW.out _ HIW.out).mono ?_
  rintro e w2 ⟨⟨fw, rfl⟩, hb2⟩
  have HX2 := Lib.hid ((hb2.block _ (lt_of_blk HX.out)).trans HX.out)
  have HB2 := Lib.hid (bch HB.out hb2)
  have HI2 := Lib.hid (HIW.out.next hb2)
  clear hb2
  cases fw with
  | false =>
    go_wp2_with fail
    refine (law20_lives _).mono ?_
    rintro e w5 ⟨rfl, hb5⟩
    go_wp2_with fail
    go_ret
    exact ⟨rfl, bch HB2.out hb5⟩
  | true =>
    obtain ⟨c0, c1, c2, c3, c4, _⟩ := ir_cells_at HX2.out
    go_wp2_with fail
    refine (HCP.out _ HI2.out).mono ?_
    rintro e w3 ⟨A, ac, C, bc, rfl, hIq, hb3⟩
    have HB3 := Lib.hid (bal (bch HB2.out hb3) (.cells #[.int .i64 0, .slice A 0 ac, .slice C 0 bc, .int .i64 0, .int .i64 0] 25))
    clear c0 c1 c2 c3 c4 hIq hb3
    go_wp2_with fail
    refine (law20_lives _).mono ?_
    rintro e w5 ⟨rfl, hb5⟩
    go_wp2_with fail
    go_ret
    exact ⟨rfl, bch HB3.out hb5⟩
set_option maxRecDepth 100000 in
set_option maxHeartbeats 8000000 in
theorem good (p : Ir) (av bv : Value) (hf : p.fine) (he : irErr p = 0) (w : World) (hI : IrRep w w.heap.size p av bv) : Calls Try.prog 7 #[irVal p av bv] w fun e w' => e = .returned (.bool true) ∧ Below w.heap.size w w' := by
  have HFW := Lib.hid (fun W h => law20_few p av bv hf W h)
  have HCP := Lib.hid (fun W h => cop_Copies p av bv hf he W h)
  have hqf := cp_fine hf
  have HGB := Lib.hid (cp_good he)
  have hlq : (cpIr p).blocks.length = p.blocks.length := List.length_map ..
  obtain ⟨BA, pbc, rfl, hbc⟩ := hI.2.form
  generalize cpIr p = q at *
  have hqb := hqf.2.2.2.2.1
  have HOL : Hid (∀ k, k < q.blocks.length → (q.blocks.getD k blkNone).ops.length ≤ 4398046511104) := Lib.hid (fun k hk => (hqf.2.2.2.2.2.2 _ (getD_memI q.blocks k blkNone hk)).1)
  have qlb : ((q.blocks.length : Int) != (p.blocks.length : Int)) = false := by rw [hlq, bne_eq_false_iff_eq]
  unfold irVal at HFW HCP ⊢
  unfold PassPost at HCP
  unfold FewPost at HFW
  have HX := Lib.hid (heap_alloc_new w (.cells #[.int .i64 p.temps, av, .slice BA p.blocks.length pbc, .int .i64 p.inp, .int .i64 p.out] 25))
  have hb := bnew w (.cells #[.int .i64 p.temps, av, .slice BA p.blocks.length pbc, .int .i64 p.inp, .int .i64 p.out] 25)
  have HIW := Lib.hid (hI.next hb)
  have HB := Lib.hid hb
  have HUS := Lib.hid (fun o W => ir_Uses o W)
  have HST := Lib.hid (fun l A c t hn W h => law20_stale l A c t hn W h)
  unfold opVal at HUS
  clear hI he hf hb hqf hlq hbc
  go_enter Try.func7, Try.ntmps7
  go_wp2_with fail
  generalize w.alloc (.cells #[.int .i64 p.temps, av, .slice BA p.blocks.length pbc, .int .i64 p.inp, .int .i64 p.out] 25) = w1 at *
  refine (HFW.out _ HIW.out).mono ?_
  rintro e w2 ⟨⟨fw, rfl⟩, hb2⟩
  have HX2 := Lib.hid ((hb2.block _ (lt_of_blk HX.out)).trans HX.out)
  have HB2 := Lib.hid (bch HB.out hb2)
  have HI2 := Lib.hid (HIW.out.next hb2)
  clear hb2
  cases fw with
  | false =>
    go_wp2_with fail
    refine (law20_lives _).mono ?_
    rintro e w5 ⟨rfl, hb5⟩
    go_wp2_with fail
    go_ret
    exact ⟨rfl, bch HB2.out hb5⟩
  | true =>
    obtain ⟨c0, c1, c2, c3, c4, _⟩ := ir_cells_at HX2.out
    go_wp2_with fail
    refine (HCP.out _ HI2.out).mono ?_
    rintro e w3 ⟨A, ac, C, bc, rfl, hIq, hb3⟩
    have HX4 := Lib.hid (alloc_old ((hb3.block _ (lt_of_blk HX2.out)).trans HX2.out) (.cells #[.int .i64 q.temps, .slice A q.arrays.length ac, .slice C q.blocks.length bc, .int .i64 q.inp, .int .i64 q.out] 25))
    have HY4 := Lib.hid (heap_alloc_new w3 (.cells #[.int .i64 q.temps, .slice A q.arrays.length ac, .slice C q.blocks.length bc, .int .i64 q.inp, .int .i64 q.out] 25))
    have hb4 := bnew w3 (.cells #[.int .i64 q.temps, .slice A q.arrays.length ac, .slice C q.blocks.length bc, .int .i64 q.inp, .int .i64 q.out] 25)
    have HB4 := Lib.hid (bch (bch HB2.out hb3) hb4)
    have HQ4 := Lib.hid (hIq.next hb4)
    clear c0 c1 c2 c3 c4 hIq hb3 hb4
    obtain ⟨c0, c1, c2, c3, c4, _⟩ := ir_cells_at HX4.out
    obtain ⟨d0, d1, d2, d3, d4, _⟩ := ir_cells_at HY4.out
    go_wp2_with fail
    generalize w3.alloc (.cells #[.int .i64 q.temps, .slice A q.arrays.length ac, .slice C q.blocks.length bc, .int .i64 q.inp, .int .i64 q.out] 25) = w4 at *
    clear c0 c1 c2 c3 c4 d0 d1 d2 d3 d4
    go_loopw [5] (fun vi wr => ∃ (k : Nat), k ≤ q.blocks.length ∧ vi = .int .i64 k ∧ Below w4.heap.size w4 wr) (fun vi _ => q.blocks.length - (intOf vi).toNat)
    case atStart => exact ⟨0, Nat.zero_le _, rfl, Below.refl _ _⟩
    case round =>
      obtain ⟨k, hk, rfl, hBW⟩ := hrel
      have HBW := Lib.hid hBW
      have d2 := (cell_of_blk ((hBW.block _ (lt_of_blk HY4.out)).trans HY4.out) 2).1
      have d2' : wr.cell? ⟨w3.heap.size, 2, none⟩ = some (.slice C q.blocks.length bc) := d2
      clear hBW d2
      by_cases hlt : k < q.blocks.length
      · obtain ⟨b, off, rfl, hb0, OA, oc, hops, hoc, x0, x1, x2, x3, x4⟩ := blk_at (HQ4.out.2.below HBW.out (Nat.le_refl _)) k hlt
        obtain ⟨hg1, hg2⟩ := HGB.out k hlt
        have hol := HOL.out k hlt
        generalize q.blocks.getD k blkNone = bk at *
        obtain ⟨ops, trm⟩ := bk
        obtain ⟨tk, ta, ty, tn⟩ := trm
        simp only at hops hoc x0 x1 x2 x3 x4 hg1 hg2 hol
        have k0 : (0 : Int) ≤ (k : Int) := by omega
        have k1 : (k : Int) < (q.blocks.length : Int) := by omega
        have HXA := Lib.hid (heap_alloc_new wr (.cells #[.slice OA ops.length oc, .int .i64 tk, .int .i64 ta, .int .i64 ty, .int .i64 tn] 55))
        have hbA := bnew wr (.cells #[.slice OA ops.length oc, .int .i64 tk, .int .i64 ta, .int .i64 ty, .int .i64 tn] 55)
        have HBA := Lib.hid hbA
        have HOP := Lib.hid (hops.below (HBA.out.mono HBW.out.size) (Nat.le_refl _))
        have HG1 := Lib.hid hg1
        have HG2 := Lib.hid hg2
        clear hops hg1 hg2 hbA
        go_wp2_with fail
        generalize wr.alloc (.cells #[.slice OA ops.length oc, .int .i64 tk, .int .i64 ta, .int .i64 ty, .int .i64 tn] 55) = wA at *
        clear x0 x1 x2 x3 x4 d2'
        obtain ⟨wo, rfl⟩ : ∃ wo : World, wo = wr := ⟨_, rfl⟩
        go_loopw [7] (fun vj wr => ∃ (j : Nat), j ≤ ops.length ∧ vj = .int .i64 j ∧ Below wA.heap.size wA wr) (fun vj _ => ops.length - (intOf vj).toNat)
        case atStart => exact ⟨0, Nat.zero_le _, rfl, Below.refl _ _⟩
        case round =>
          obtain ⟨j, hj, rfl, hBJ⟩ := hrel
          have HXJ := Lib.hid ((hBJ.block _ (lt_of_blk HXA.out)).trans HXA.out)
          obtain ⟨z0, z1, z2, z3, z4, _, _⟩ := blk_cells_at HXJ.out
          have HBJ := Lib.hid hBJ
          have HOJ := Lib.hid (HOP.out.below HBJ.out (by have := HBA.out.size; have := HBW.out.size; omega))
          clear hBJ
          by_cases hjl : j < ops.length
          · obtain ⟨ob, ooff, rfl, hob, s0, s1, s2, s3, s4, s5⟩ := op_at HOJ.out j hjl
            have hgj := HG1.out j hjl
            generalize ops.getD j opNone = o at *
            obtain ⟨ok, od, oa, obb, oc3, oi⟩ := o
            simp only at s0 s1 s2 s3 s4 s5 hgj
            have j0 : (0 : Int) ≤ (j : Int) := by omega
            have j1 : (j : Int) < (ops.length : Int) := by omega
            have HGJ := Lib.hid hgj
            have hcut := fun W => run_cut ob ooff ops.length oc j (by omega) W
            have hcutH := Lib.hid hcut
            clear hgj hcut
            go_wp2_with fail
            refine (HUS.out ⟨ok, od, oa, obb, oc3, oi⟩ _).mono ?_
            rintro e w5 ⟨g, rfl, hg5, hgl, hb5⟩
            have HG5 := Lib.hid hg5
            have HB5 := Lib.hid (bch HBJ.out hb5)
            have h3 := fSrc_le ok
            try simp only
            have HX5 := Lib.hid ((hb5.block _ (lt_of_blk HXJ.out)).trans HXJ.out)
            have HO5 := Lib.hid (HOJ.out.below hb5 (by have := HBJ.out.size; have := HBA.out.size; have := HBW.out.size; omega))
            clear hg5 hb5 z0 z1 z2 z3 z4 s0 s1 s2 s3 s4 s5
            obtain ⟨ns, hns⟩ : ∃ ns, fSrc ok = ns := ⟨_, rfl⟩
            rw [hns] at HGJ h3 ⊢
            try simp only
            clear hns
            go_wp2_with fail
            obtain ⟨wj, rfl⟩ : ∃ wj : World, wj = wr := ⟨_, rfl⟩
            go_loopw [9] (fun vm wr => ∃ (m : Nat), m ≤ ns ∧ vm = .int .i64 m ∧ Below w5.heap.size w5 wr) (fun vm _ => ns - (intOf vm).toNat)
            case atStart => exact ⟨0, Nat.zero_le _, rfl, Below.refl _ _⟩
            case round =>
              obtain ⟨m, hm, rfl, hBM⟩ := hrel
              have HBM := Lib.hid hBM
              clear hBM
              by_cases hml : m < ns
              · obtain ⟨t, ht⟩ : ∃ t, [oa, obb, oc3].getD m 0 = t := ⟨_, rfl⟩
                have hcm : w5.cell? ⟨g, m, none⟩ = some (.int .i64 t) := by
                  rw [(cell_of_blk HG5.out m).1, ← ht]
                  match m, hml with
                  | 0, _ => rfl
                  | 1, _ => rfl
                  | 2, _ => rfl
                  | m + 3, h => omega
                have hsf := HGJ.out m hml
                rw [ht] at hsf
                have m0 : (0 : Int) ≤ (m : Int) := by omega
                have m1 : (m : Int) < (ns : Int) := by omega
                have hlX : wo.heap.size < w5.heap.size := lt_of_blk HX5.out
                have hlg : g < w5.heap.size := lt_of_blk HG5.out
                have y0 := (HBM.out.cell (p := ⟨wo.heap.size, 0, none⟩) hlX).trans (cell_of_blk HX5.out 0).1
                have y0' : wr.cell? ⟨wo.heap.size, 0, none⟩ = some (.slice (some ⟨ob, ooff, none⟩) ops.length oc) := y0
                have y1 := (HBM.out.cell (p := ⟨g, m, none⟩) hlg).trans hcm
                have hlXr : wo.heap.size < wr.heap.size := by have := HBM.out.size; omega
                have hlgr : g < wr.heap.size := by have := HBM.out.size; omega
                have HSF := Lib.hid hsf
                have hlt2 : (ops.take j).length = j := by rw [List.length_take]; omega
                have HSJ := Lib.hid (slRep_take (HO5.out.below HBM.out (by have := HB5.out.size; have := HBA.out.size; have := HBW.out.size; omega)) j hj)
                have HSK := Lib.hid (HST.out (ops.take j) (some ⟨ob, ooff, none⟩) oc t (by rw [hlt2]; omega))
                rw [HSF.out] at HSK
                rw [hlt2] at HSJ HSK
                clear ht hcm hsf y0 hlX hlg hlt2
                have hcut := hcutH.out
                go_wp2_with fail
                refine wp_region_L (fun w' => Below wr.heap.size wr w') 99 (by kernel_rfl) ?_
                have hS0 : Below wr.heap.size wr wr.drew := Below.drew (Below.refl _ _)
                refine wpAnyL_take (i := 0) (some 66) (.pointer (some ⟨wo.heap.size, 0, none⟩)) rfl rfl (by kernel_rfl) (by kernel_rfl) (by kernel_rfl) (by kernel_rfl) (fun _ _ _ h => h) (by rfl) ?hvx1_0 hS0 ?restx1_0
                case hvx1_0 =>
                  intro wz hSz
                  go_simp
                try simp only [Act.put, List.setIfInBounds_toArray, List.set_cons_zero, List.set_cons_succ]
                refine wpAnyL_take (i := 1) (some 67) (.slice (some ⟨ob, ooff, none⟩) ops.length oc) rfl rfl (by kernel_rfl) (by kernel_rfl) (by kernel_rfl) (by kernel_rfl) (fun _ _ _ h => h) (by rfl) ?hvx1_1 hS0 ?restx1_1
                case hvx1_1 =>
                  intro wz hSz
                  have z0 := (hSz.cell (p := ⟨wo.heap.size, 0, none⟩) (hlXr)).trans y0'
                  go_simp
                try simp only [Act.put, List.setIfInBounds_toArray, List.set_cons_zero, List.set_cons_succ]
                refine wpAnyL_take (i := 2) (some 68) (.int .i64 (j : Int)) rfl rfl (by kernel_rfl) (by kernel_rfl) (by kernel_rfl) (by kernel_rfl) (fun _ _ _ h => h) (by rfl) ?hvx1_2 hS0 ?restx1_2
                case hvx1_2 =>
                  intro wz hSz
                  go_simp
                try simp only [Act.put, List.setIfInBounds_toArray, List.set_cons_zero, List.set_cons_succ]
                refine wpAnyL_take (i := 3) (some 69) (.slice (some ⟨ob, ooff, none⟩) j oc) rfl rfl (by kernel_rfl) (by kernel_rfl) (by kernel_rfl) (by kernel_rfl) (fun _ _ _ h => h) (by rfl) ?hvx1_3 hS0 ?restx1_3
                case hvx1_3 =>
                  intro wz hSz
                  go_simp
                try simp only [Act.put, List.setIfInBounds_toArray, List.set_cons_zero, List.set_cons_succ]
                refine wpAnyL_take (i := 4) (some 70) (.slice (some ⟨g, 0, none⟩) ns 3) rfl rfl (by kernel_rfl) (by kernel_rfl) (by kernel_rfl) (by kernel_rfl) (fun _ _ _ h => h) (by rfl) ?hvx1_4 hS0 ?restx1_4
                case hvx1_4 =>
                  intro wz hSz
                  go_simp
                try simp only [Act.put, List.setIfInBounds_toArray, List.set_cons_zero, List.set_cons_succ]
                refine wpAnyL_take (i := 5) (some 71) (.int .i64 (m : Int)) rfl rfl (by kernel_rfl) (by kernel_rfl) (by kernel_rfl) (by kernel_rfl) (fun _ _ _ h => h) (by rfl) ?hvx1_5 hS0 ?restx1_5
                case hvx1_5 =>
                  intro wz hSz
                  go_simp
                try simp only [Act.put, List.setIfInBounds_toArray, List.set_cons_zero, List.set_cons_succ]
                refine wpAnyL_take (i := 6) (some 72) (.pointer (some ⟨g, m, none⟩)) rfl rfl (by kernel_rfl) (by kernel_rfl) (by kernel_rfl) (by kernel_rfl) (fun _ _ _ h => h) (by rfl) ?hvx1_6 hS0 ?restx1_6
                case hvx1_6 =>
                  intro wz hSz
                  go_simp
                try simp only [Act.put, List.setIfInBounds_toArray, List.set_cons_zero, List.set_cons_succ]
                refine wpAnyL_take (i := 7) (some 73) (.int .i64 t) rfl rfl (by kernel_rfl) (by kernel_rfl) (by kernel_rfl) (by kernel_rfl) (fun _ _ _ h => h) (by rfl) ?hvx1_7 hS0 ?restx1_7
                case hvx1_7 =>
                  intro wz hSz
                  have z1 := (hSz.cell (p := ⟨g, m, none⟩) (hlgr)).trans y1
                  go_simp
                try simp only [Act.put, List.setIfInBounds_toArray, List.set_cons_zero, List.set_cons_succ]
                refine wpAnyL_one (i := 8) (by kernel_rfl) rfl ?_
                intro K hK
                rw [if_pos (by rfl)]
                go_simp
                refine (HSK.out wr.drew (SlRep.keep (w' := wr.drew) HSJ.out (by have := HBM.out.size; have := HB5.out.size; have := HBA.out.size; have := HBW.out.size; show _ ≤ wr.drew.heap.size; simp; omega) (fun _ _ => rfl))).mono ?_
                rintro e wc1 ⟨rfl, hb⟩
                have hS1 := bch hS0 hb
                refine hK.out _ _ (fun _ => hS1) ?_
                clear hK hb
                try simp only [Act.put, List.setIfInBounds_toArray, List.set_cons_zero, List.set_cons_succ]
                refine wpAnyL_done (by kernel_rfl) ?_ _
                go_wp2_with fail
                go_roundw
                case rel => exact ⟨m + 1, by omega, by go_num, bch HBM.out hS1⟩
                case measure => simp [intOf]; omega
              · obtain rfl : m = ns := by omega
                go_wp2_with fail
                go_roundw
                case rel => exact ⟨j + 1, by omega, by go_num, bch HB5.out HBM.out⟩
                case measure => simp [intOf]; omega
          · obtain rfl : j = ops.length := by omega
            have HBE := Lib.hid (bch (bch HBW.out HBA.out) HBJ.out)
            by_cases hk2 : tk = 2
            · have q2 : (tk == 2) = true := by rw [beq_iff_eq]; exact hk2
              have HSF := Lib.hid (HG2.out hk2)
              have HSK := Lib.hid (HST.out ops OA oc ta hol)
              rw [HSF.out] at HSK
              clear hk2
              go_wp2_with fail
              refine (HSK.out _ (HOJ.out.keep (by have := HBJ.out.size; have := HBA.out.size; have := HBW.out.size; omega) (fun _ _ => rfl))).mono ?_
              rintro e w6 ⟨rfl, hb6⟩
              have HB6 := Lib.hid (bch HBE.out hb6)
              clear z0 z1 z2 z3 z4 hb6
              go_wp2_with fail
              go_roundw
              case rel => exact ⟨k + 1, by omega, by go_num, HB6.out⟩
              case measure => simp [intOf]; omega
            · have q2 : (tk == 2) = false := by rw [beq_eq_false_iff_ne]; exact hk2
              clear hk2
              go_wp2_with fail
              go_roundw
              case rel => exact ⟨k + 1, by omega, by go_num, HBE.out⟩
              case measure => simp [intOf]; omega
      · obtain rfl : k = q.blocks.length := by omega
        have HBE := Lib.hid (bch HB4.out HBW.out)
        go_wp2_with fail
        refine (law20_lives _).mono ?_
        rintro e w10 ⟨rfl, hb10⟩
        go_wp2_with fail
        go_ret
        exact ⟨rfl, bch HBE.out hb10⟩
set_option maxHeartbeats 8000000 in
theorem walk (p : Ir) (av bv : Value) (v0 : Value) (hv : v0 = irVal p av bv) (hf : p.fine) (w : World) (hI : IrRep w w.heap.size p av bv) :
    Calls Try.prog 7 #[v0] w fun e w' => e = .returned (.bool true) ∧ Below w.heap.size w w' := by
  subst hv
  by_cases he : irErr p = 0
  · exact good p av bv hf he w hI
  · exact bad p av bv hf he w hI

theorem own : ownKnob Try.prog.godebug = none := by kernel_rfl
set_option maxRecDepth 100000 in
theorem lifted (os : Os) (started : os.Started) (H : Type) (enc : TypeId × Value → H) :
    ReturnsInHanded {} Try.checked os 7 .any (Rows.copiesNoneSpec.pre6 enc Try.prog Try.f7 Rows.copiesNoneRow.domain false) (Rows.copiesNoneSpec.post enc Try.prog Try.f7 false true false false) := by
  refine returnsInHanded_of_change_sized (C := Try.checked) own started (by kernel_rfl) Try.func7
    (ChangeSpec.witness6 (enc := enc) (C := Try.checked) false ⟨#[], #[.agg #[.int .i64 0, .slice none 0 0, .slice none 0 0, .int .i64 0, .int .i64 0]], []⟩ 8 (by kernel_rfl) (by kernel_rfl) (by kernel_rfl) (by kernel_rfl)) ?_
  intro W base args ds gs before hval0 hW hcnd hsz _
  have hval : ∀ (j : Nat) t v, Try.f7.params[j]? = some t → args[j]? = some v → Value.okWide Try.prog W .any base t v := hval0
  have hW' := hW
  obtain ⟨p, q, hA0, hV, rfl, hfz, hnd⟩ := hW
  have hA : DataW.TrodAll enc Try.prog W 0 (fun _ => true) true Try.f7.params.toList args.toList ds p := hA0
  rw [Try.params7] at hA hval
  obtain ⟨v0, vs0, d0, ds0, p0, q0, hargs, rfl, rfl, h0, r0⟩ := trodAll_cons hA
  obtain ⟨rfl, rfl, rfl⟩ := trodAll_nil r0
  obtain rfl : args = #[v0] := by cases args; simp_all
  obtain ⟨rfl, rfl⟩ := trodVars_none hV
  clear hA0 hval0
  obtain ⟨p, av, bv, hv, hI, hf⟩ := open_ir (hval 0 25 v0 rfl rfl) h0 (fun x hx => by simpa using hW'.lt x (by simp [hx])) (weights_of hsz 0 rfl rfl)
  refine (walk p av bv v0 hv hf W hI).mono fun e W' ⟨he, hg⟩ => ?_
  subst he
  exact ⟨_, rfl, law_post (by kernel_rfl) (by kernel_rfl) rfl (by kernel_rfl) Try.underlying4 rfl hW' hg⟩

theorem proved : Rows.CopiesNoneSaid :=
  OpenClaim.holds_of_wide 7 Try.f7 rfl rfl rfl rfl rfl rfl rfl ⟨rfl, rfl, rfl, rfl, rfl⟩ rfl rfl rfl rfl rfl (by kernel_rfl) Try.func7 (by kernel_rfl)
    (of_decide_eq_true (by kernel_rfl)) (by unfold Func.isWrapper; first | (rw [if_pos (by decide +kernel)]; kernel_rfl) | (rw [if_neg (by decide +kernel)]; exact ⟨rfl, rfl⟩))
    (fun os started H enc _ => lifted os started H enc)
#print axioms proved
end Go.Proofs.Ytiaimceefkdchaa.copiesNone
