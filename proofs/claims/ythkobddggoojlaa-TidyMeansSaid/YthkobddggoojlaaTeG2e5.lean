/- Parts of a proof. No condition but those that each theorem names. -/
import Derived.WalkKit
import Derived.OpenShut
import Derived.Below
import Derived.Lib.Hide
import Derived.Laws.OwnMore
import Derived.Deep.QuietTactic
import Derived.Deep.AppendLies
import Derived.ProofKit
import Derived.SizedLaws
import Derived.Test.YthkobddggoojlaaProg
import Derived.Handy
import Derived.Deep.RegionHeld3
import Derived.BigQuiet
import Derived.Test.YthkobddggoojlaaTeG0e0
import Derived.Test.YthkobddggoojlaaTeG0e1
import Derived.Test.YthkobddggoojlaaTeG0e2
import Derived.Test.YthkobddggoojlaaTeG0e4
import Derived.Test.YthkobddggoojlaaTeIrC
import Derived.Test.YthkobddggoojlaaTeIrD
import Derived.Test.YthkobddggoojlaaTeG0e5
namespace Go.Proofs.Ythkobddggoojlaa
open Go.RowKit
theorem all_getD {T : Type} (P : T → Prop) (l : List T) (d : T) (h : ∀ q, q < l.length → P (l.getD q d)) : ∀ x ∈ l, P x := by
  intro x hx
  obtain ⟨q, hq, rfl⟩ := List.getElem_of_mem hx
  have := h q hq
  rwa [List.getD_eq_getElem?_getD, List.getElem?_eq_getElem hq] at this
theorem arrStep_nonneg (inp out en : Int) (a : Arr) (h : 0 ≤ en) (e : Int) (he : arrStep inp out en a = some e) : 0 ≤ e := by
  unfold arrStep at he
  split at he
  · cases he
  · rename_i hs
    have hs : shapedP a := by simpa using hs
    split at he
    · split at he
      · injection he with he; omega
      · cases he
    · split at he
      · split at he
        · injection he with he; omega
        · cases he
      · split at he
        · split at he
          · rename_i h3
            injection he with he
            obtain ⟨h4, h5, h6⟩ := hs
            have : 0 ≤ a.elem * a.len := by rcases h4 with h4 | h4 <;> rw [h4] <;> omega
            unfold up4 at he
            omega
          · cases he
        · cases he
set_option maxHeartbeats 4000000 in
set_option maxRecDepth 100000 in
theorem ir_Check (p : Ir) (av bv : Value) (hf : p.fine) (w : World) (hI : IrRep w w.heap.size p av bv) :
    Calls Try.prog 11 #[irVal p av bv] w fun e w' => e = .returned (.int .i64 (irErr p)) ∧ Below w.heap.size w w' := by
  have HLM := Lib.hid (fun W h => ir_limited p av bv hf W h)
  obtain ⟨hRA, hRB⟩ := hI
  obtain ⟨AA, ac, rfl, hac⟩ := hRA.form
  obtain ⟨BA, bc, rfl, hbc⟩ := hRB.form
  have HI0 := Lib.hid (show IrRep w w.heap.size p _ _ from ⟨hRA, hRB⟩)
  have HRA := Lib.hid hRA
  have HRB := Lib.hid hRB
  obtain ⟨hf1, hf2, hf3, hf4, hf5, hf6, hf7⟩ := hf
  unfold IntR at hf1 hf2 hf3
  have HF6 := Lib.hid hf6
  have HF7 := Lib.hid hf7
  have HW := Lib.hid (fun n W => ir_within n 0 65536 W)
  unfold irVal at HLM ⊢
  by_cases hg : greatP p
  · have hR : irErr p = 18 := by unfold irErr; rw [if_pos hg]
    rw [hR]
    rw [decide_eq_true hg] at HLM
    clear hRA hRB hac hbc hf6 hf7 hR hg
    go_enter Try.func11, Try.ntmps11
    go_wp2_with fail
    refine (HLM.out _ (HI0.out.next (bnew _ _))).mono ?_
    rintro e w2 ⟨rfl, hb⟩
    have HB := Lib.hid (bch (bnew _ _) hb)
    clear hb
    go_wp2_with fail
    go_ret
    exact ⟨rfl, HB.out⟩
  · have HR0 : Hid (mayP p → irErr p = 0) := Lib.hid (fun h => by unfold irErr; rw [if_neg hg, if_pos h])
    have HR2 : Hid (¬ mayP p → irErr p = 2) := Lib.hid (fun h => by unfold irErr; rw [if_neg hg, if_neg h])
    rw [decide_eq_false hg] at HLM
    have hg2 := hg
    unfold greatP at hg2
    have hrs := railSum_nonneg p.arrays
    have ht : p.temps ≤ 1048576 := by omega
    have ha : p.arrays.length ≤ 1048576 := by omega
    have hbl : p.blocks.length ≤ 1048576 := by omega
    clear hRA hRB hac hbc hf6 hf7 hg hg2 hrs
    generalize irErr p = R at *
    go_enter Try.func11, Try.ntmps11
    have hs1 : (w.alloc (.cells #[.int .i64 p.temps, .slice AA p.arrays.length ac, .slice BA p.blocks.length bc, .int .i64 p.inp, .int .i64 p.out] 25)).heap.size = w.heap.size + 1 := by simp
    have hx1 := heap_alloc_new w (.cells #[.int .i64 p.temps, .slice AA p.arrays.length ac, .slice BA p.blocks.length bc, .int .i64 p.inp, .int .i64 p.out] 25)
    have hb1 := bnew w (.cells #[.int .i64 p.temps, .slice AA p.arrays.length ac, .slice BA p.blocks.length bc, .int .i64 p.inp, .int .i64 p.out] 25)
    go_wp2_with fail
    generalize w.alloc (.cells #[.int .i64 p.temps, .slice AA p.arrays.length ac, .slice BA p.blocks.length bc, .int .i64 p.inp, .int .i64 p.out] 25) = w1 at *
    have HX1 := Lib.hid hx1
    have HB1 := Lib.hid hb1
    refine (HLM.out _ (HI0.out.next HB1.out)).mono ?_
    rintro e w2 ⟨rfl, hb⟩
    have hx2 := (hb.block _ (lt_of_blk hx1)).trans hx1
    have hs2 := hb.size
    have hb3 := bal hb (.cells (ckCells p (.slice AA p.arrays.length ac) (.slice BA p.blocks.length bc) 0) 62)
    have hm3 : CkAt (w2.alloc (.cells (ckCells p (.slice AA p.arrays.length ac) (.slice BA p.blocks.length bc) 0) 62)) w2.heap.size p (.slice AA p.arrays.length ac) (.slice BA p.blocks.length bc) 0 := heap_alloc_new _ _
    have c0 : w2.cell? ⟨w.heap.size, 0, none⟩ = some (.int .i64 p.temps) := (cell_of_blk hx2 0).1
    have c1 : w2.cell? ⟨w.heap.size, 1, none⟩ = some (.slice AA p.arrays.length ac) := (cell_of_blk hx2 1).1
    have c2 : w2.cell? ⟨w.heap.size, 2, none⟩ = some (.slice BA p.blocks.length bc) := (cell_of_blk hx2 2).1
    have c3 : w2.cell? ⟨w.heap.size, 3, none⟩ = some (.int .i64 p.inp) := (cell_of_blk hx2 3).1
    have c4 : w2.cell? ⟨w.heap.size, 4, none⟩ = some (.int .i64 p.out) := (cell_of_blk hx2 4).1
    have HB3 := Lib.hid hb3
    have HM3 := Lib.hid hm3
    unfold ckCells at HB3 HM3
    have hx3 := (hb3.block _ (lt_of_blk hx1)).trans hx1
    unfold ckCells at hx3
    have d0 := (cell_of_blk hx3 0).1
    have d1 := (cell_of_blk hx3 1).1
    have d2 := (cell_of_blk hx3 2).1
    have d3 := (cell_of_blk hx3 3).1
    have d4 := (cell_of_blk hx3 4).1
    simp only [List.getElem?_toArray, List.getElem?_cons_zero, List.getElem?_cons_succ] at d0 d1 d2 d3 d4
    clear hb hx2 hb3 hm3 hx1 hb1 hx3
    go_wp2_with fail
    generalize w2.alloc (.cells #[.int .i64 p.temps, .slice AA p.arrays.length ac, .slice BA p.blocks.length bc, .int .i64 p.inp, .int .i64 p.out, .int .i64 0] 62) = w3 at *
    have HW1 := Lib.hid (HW.out p.inp w3)
    have HW2 := Lib.hid (HW.out p.out w3)
    by_cases i1 : 0 ≤ p.inp ∧ p.inp ≤ 65536
    · rw [decide_eq_true i1] at HW1
      refine HW1.out.mono ?_
      rintro e w' ⟨rfl, rfl⟩
      go_wp2_with fail
      by_cases i2 : 0 ≤ p.out ∧ p.out ≤ 65536
      · rw [decide_eq_true i2] at HW2
        refine HW2.out.mono ?_
        rintro e w' ⟨rfl, rfl⟩
        have t1 : p.inp.tmod 4 = p.inp % 4 := Int.tmod_eq_emod_of_nonneg (by omega)
        have t2 : p.out.tmod 4 = p.out % 4 := Int.tmod_eq_emod_of_nonneg (by omega)
        by_cases i3 : p.inp % 4 = 0
        · have q3 : (p.inp % 4 != 0) = false := by rw [bne_eq_false_iff_eq]; exact i3
          by_cases i4 : p.out % 4 = 0
          · have q4 : (p.out % 4 != 0) = false := by rw [bne_eq_false_iff_eq]; exact i4
            by_cases i5 : 0 ≤ p.temps
            · by_cases i6 : p.blocks.length = 0
              · have hR := HR2.out (fun h => h.1.2.2.2 (List.eq_nil_of_length_eq_zero i6))
                subst hR
                have q6 : ((p.blocks.length : Int) == 0) = true := by rw [beq_iff_eq]; omega
                clear t1 t2
                go_wp2_with fail
                go_ret
                exact ⟨rfl, bch HB1.out HB3.out⟩
              · have q6 : ((p.blocks.length : Int) == 0) = false := by rw [beq_eq_false_iff_ne]; omega
                have HHEAD : Hid (headP p) := Lib.hid ⟨⟨i1.1, i1.2, i3⟩, ⟨i2.1, i2.2, i4⟩, i5, fun h => i6 (by rw [h]; rfl)⟩
                clear t1 t2 i3 i4
                go_wp2_with fail
                go_loopw [52] (fun j wr => ∃ k : Nat, k ≤ p.arrays.length ∧ j = .int .i64 k ∧ Below w1.heap.size w1 wr ∧ ∃ en : Int, 0 ≤ en ∧ arrEnd p.inp p.out (p.arrays.take k) 0 = some en ∧ CkAt wr w2.heap.size p (.slice AA p.arrays.length ac) (.slice BA p.blocks.length bc) en) (fun j _ => p.arrays.length - (intOf j).toNat)
                case atStart => exact ⟨0, by omega, rfl, HB3.out, 0, by omega, rfl, HM3.out⟩
                case round =>
                  obtain ⟨k, hk, rfl, hK, en, hen, hend, hck⟩ := hrel
                  by_cases hlt : k < p.arrays.length
                  · obtain ⟨b, off, rfl, hb0, x0, x1, x2, x3⟩ := arr_at (HRA.out.below (bch HB1.out hK) (Nat.le_refl _)) k hlt
                    have hstep := arrEnd_step p.inp p.out p.arrays k hlt en hend
                    have hnn := arrStep_nonneg p.inp p.out en (p.arrays.getD k arrNone) hen
                    have har := HF6.out _ (getD_memI p.arrays k arrNone hlt)
                    have HAR := Lib.hid (fun W h => ck_array w2.heap.size p (.slice (some ⟨b, off, none⟩) p.arrays.length ac) (.slice BA p.blocks.length bc) en (p.arrays.getD k arrNone) i1 i2 hen har W h)
                    unfold ArrPost arrVal at HAR
                    have hfail : arrStep p.inp p.out en (p.arrays.getD k arrNone) = none → ¬ mayP p := by
                      intro h hm
                      rw [h] at hstep
                      have h2 := hm.2.1
                      rw [arrEnd_fail p.inp p.out p.arrays (k + 1) hstep] at h2
                      simp at h2
                    have HFL := Lib.hid hfail
                    have HST := Lib.hid hstep
                    have HNN := Lib.hid hnn
                    generalize arrStep p.inp p.out en (p.arrays.getD k arrNone) = st at *
                    generalize p.arrays.getD k arrNone = ar at *
                    obtain ⟨e, l, ak, o⟩ := ar
                    simp only at x0 x1 x2 x3 HAR
                    have k0 : (0 : Int) ≤ (k : Int) := by omega
                    have k1 : (k : Int) < (p.arrays.length : Int) := by omega
                    have HK := Lib.hid hK
                    have HCA := Lib.hid (hck.below (bnew wr (.cells #[.int .i64 e, .int .i64 l, .int .i64 ak, .int .i64 o] 59)))
                    clear hstep hnn har hfail hend hen hK hck
                    cases st with
                    | none =>
                      have hR := HR2.out (HFL.out rfl)
                      subst hR
                      go_wp2_with fail
                      refine (HAR.out _ HCA.out).mono ?_
                      rintro e3 w4 ⟨rfl, hc4, hg4⟩
                      have HB4 : Hid (Below w1.heap.size w1 w4) := Lib.hid ((bal HK.out _).grown hg4 (bal HK.out _).size (fun b e => by injection e with e; omega))
                      clear hc4 hg4
                      go_wp2_with fail
                      go_ret
                      exact ⟨rfl, bch HB1.out HB4.out⟩
                    | some en2 =>
                      go_wp2_with fail
                      refine (HAR.out _ HCA.out).mono ?_
                      rintro e3 w4 ⟨rfl, hc4, hg4⟩
                      have HB4 : Hid (Below w1.heap.size w1 w4) := Lib.hid ((bal HK.out _).grown hg4 (bal HK.out _).size (fun b e => by injection e with e; omega))
                      have HC4 := Lib.hid hc4
                      clear hc4 hg4
                      go_wp2_with fail
                      go_roundw
                      case rel => exact ⟨k + 1, by omega, by go_num, HB4.out, en2, HNN.out en2 rfl, HST.out, HC4.out⟩
                      case measure => simp [intOf]; omega
                  · obtain rfl : k = p.arrays.length := by omega
                    rw [List.take_length] at hend
                    have HEND := Lib.hid hend
                    have HCK := Lib.hid hck
                    have hx := (hK.block _ (lt_of_blk HX1.out)).trans HX1.out
                    have c2 : wr.cell? ⟨w.heap.size, 2, none⟩ = some (.slice BA p.blocks.length bc) := (cell_of_blk hx 2).1
                    have HK := Lib.hid hK
                    clear hend hck hK hx c0 c1 c3 c4 d0 d1 d2 d3 d4 hen
                    go_wp2_with fail
                    go_loopw [64] (fun j wq => ∃ k : Nat, k ≤ p.blocks.length ∧ j = .int .i64 k ∧ Below wr.heap.size wr wq ∧ ∀ q, q < k → blkP p (p.blocks.getD q blkNone)) (fun j _ => p.blocks.length - (intOf j).toNat)
                    case atStart => exact ⟨0, by omega, rfl, Below.refl _ _, fun q hq => by omega⟩
                    case round =>
                      obtain ⟨k, hk, rfl, hK2, hall⟩ := hrel
                      have HKK := Lib.hid (bch HK.out hK2)
                      have HCKK := Lib.hid (HCK.out.below hK2)
                      have HK2 := Lib.hid hK2
                      have HALL := Lib.hid hall
                      by_cases hlt : k < p.blocks.length
                      · obtain ⟨b, off, rfl, hb0, OA, oc, hOR, hoc, x0, x1, x2, x3, x4⟩ := blk_at (HRB.out.below (bch HB1.out HKK.out) (Nat.le_refl _)) k hlt
                        have hbad : ¬ blkP p (p.blocks.getD k blkNone) → ¬ mayP p := fun h hm => h (hm.2.2 _ (getD_memI p.blocks k blkNone hlt))
                        have hnext : blkP p (p.blocks.getD k blkNone) → ∀ q, q < k + 1 → blkP p (p.blocks.getD q blkNone) := fun h q hq => by
                          rcases Nat.lt_or_ge q k with h3 | h3
                          · exact HALL.out q h3
                          · obtain rfl : q = k := by omega
                            exact h
                        have HBAD := Lib.hid hbad
                        have HNEXT := Lib.hid hnext
                        clear hbad hnext hall hK2
                        have hfb := (HF7.out _ (getD_memI p.blocks k blkNone hlt)).1
                        generalize hbk : p.blocks.getD k blkNone = bk at *
                        have HBK := Lib.hid hbk
                        clear hbk
                        obtain ⟨ops, tk, ta, ty, tn⟩ := bk
                        simp only at x0 x1 x2 x3 x4 hOR hoc hfb
                        have HOR := Lib.hid hOR
                        have k0 : (0 : Int) ≤ (k : Int) := by omega
                        have k1 : (k : Int) < (p.blocks.length : Int) := by omega
                        have hs4 : (wr.alloc (.cells #[.slice OA ops.length oc, .int .i64 tk, .int .i64 ta, .int .i64 ty, .int .i64 tn] 40)).heap.size = wr.heap.size + 1 := by simp
                        have hx4 := heap_alloc_new wr (.cells #[.slice OA ops.length oc, .int .i64 tk, .int .i64 ta, .int .i64 ty, .int .i64 tn] 40)
                        have hb4 := bnew wr (.cells #[.slice OA ops.length oc, .int .i64 tk, .int .i64 ta, .int .i64 ty, .int .i64 tn] 40)
                        clear hOR
                        go_wp2_with fail
                        generalize wr.alloc (.cells #[.slice OA ops.length oc, .int .i64 tk, .int .i64 ta, .int .i64 ty, .int .i64 tn] 40) = w4 at *
                        have HX4 := Lib.hid hx4
                        have HB4 := Lib.hid hb4
                        have HK4 := Lib.hid (bch HKK.out hb4)
                        have HC4 := Lib.hid (HCKK.out.below hb4)
                        have HSZ : Hid (w.heap.size ≤ wr.heap.size) := Lib.hid (bch HB1.out HKK.out).size
                        clear hx4 hb4 x0 x1 x2 x3 x4
                        go_loopw [71] (fun j wz => ∃ q : Nat, q ≤ ops.length ∧ j = .int .i64 q ∧ Below w4.heap.size w4 wz ∧ ∀ r, r < q → opP p (ops.getD r opNone)) (fun j _ => ops.length - (intOf j).toNat)
                        case atStart => exact ⟨0, by omega, rfl, Below.refl _ _, fun q hq => by omega⟩
                        case round =>
                          obtain ⟨q, hq, rfl, hK5, hops⟩ := hrel
                          have HK5 := Lib.hid hK5
                          have HKK5 := Lib.hid (bch HK4.out hK5)
                          have HC5 := Lib.hid (HC4.out.below hK5)
                          have HOPS := Lib.hid hops
                          by_cases hlt3 : q < ops.length
                          · obtain ⟨b2, off2, rfl, hb2, y0, y1, y2, y3, y4, y5⟩ := op_at (HOR.out.below (bch HB4.out hK5) HSZ.out) q hlt3
                            have hobad : ¬ opP p (ops.getD q opNone) → ¬ blkP p ⟨ops, tk, ta, ty, tn⟩ := fun h hm => h (hm.1 _ (getD_memI ops q opNone hlt3))
                            have honext : opP p (ops.getD q opNone) → ∀ r, r < q + 1 → opP p (ops.getD r opNone) := fun h r hr => by
                              rcases Nat.lt_or_ge r q with h3 | h3
                              · exact HOPS.out r h3
                              · obtain rfl : r = q := by omega
                                exact h
                            have HOBAD := Lib.hid hobad
                            have HONEXT := Lib.hid honext
                            have HOP := Lib.hid (fun W h1 h2 => ck_op w2.heap.size p AA ac (.slice (some ⟨b, off, none⟩) p.blocks.length bc) en (ops.getD q opNone) i5 ht ha W h1 h2)
                            unfold opVal at HOP
                            clear hobad honext hops hK5
                            generalize ops.getD q opNone = op at *
                            obtain ⟨ok, od, oa, ob, oc3, oi⟩ := op
                            simp only at y0 y1 y2 y3 y4 y5 HOP
                            have q0 : (0 : Int) ≤ (q : Int) := by omega
                            have q1 : (q : Int) < (ops.length : Int) := by omega
                            have HC6 := Lib.hid (HC5.out.below (bnew wr (.cells #[.int .i64 ok, .int .i64 od, .int .i64 oa, .int .i64 ob, .int .i64 oc3, .int .i64 oi] 46)))
                            have HA6 := Lib.hid (HRA.out.next (bch HB1.out (bal HKK5.out (.cells #[.int .i64 ok, .int .i64 od, .int .i64 oa, .int .i64 ob, .int .i64 oc3, .int .i64 oi] 46))))
                            by_cases hop : opP p ⟨ok, od, oa, ob, oc3, oi⟩
                            · rw [decide_eq_true hop] at HOP
                              have HN := Lib.hid (HONEXT.out hop)
                              clear hop
                              go_wp2_with fail
                              refine (HOP.out _ HC6.out HA6.out).mono ?_
                              rintro e w6 ⟨rfl, hb6⟩
                              have HB6 := Lib.hid (bch (bal HK5.out _) hb6)
                              clear hb6
                              go_wp2_with fail
                              go_roundw
                              case rel => exact ⟨q + 1, by omega, by go_num, HB6.out, HN.out⟩
                              case measure => simp [intOf]; omega
                            · rw [decide_eq_false hop] at HOP
                              have hR := HR2.out (HBAD.out (HOBAD.out hop))
                              subst hR
                              clear hop
                              go_wp2_with fail
                              refine (HOP.out _ HC6.out HA6.out).mono ?_
                              rintro e w6 ⟨rfl, hb6⟩
                              have HB6 := Lib.hid (bch HB1.out (bch (bal HKK5.out _) hb6))
                              clear hb6
                              go_wp2_with fail
                              go_ret
                              exact ⟨rfl, HB6.out⟩
                          · obtain rfl : q = ops.length := by omega
                            have hx := (hK5.block _ (lt_of_blk HX4.out)).trans HX4.out
                            have z1 := (cell_of_blk hx 1).1
                            have z2 := (cell_of_blk hx 2).1
                            have z3 := (cell_of_blk hx 3).1
                            have z4 := (cell_of_blk hx 4).1
                            simp only [List.getElem?_toArray, List.getElem?_cons_zero, List.getElem?_cons_succ] at z1 z2 z3 z4
                            have HTM := Lib.hid (fun W h1 => ck_term w2.heap.size p (some ⟨b, off, none⟩) bc (.slice AA p.arrays.length ac) en ⟨tk, ta, ty, tn⟩ i5 ht hf5 W h1)
                            unfold trmVal at HTM
                            simp only at HTM
                            clear hx hops hK5
                            by_cases htp : trmP p ⟨tk, ta, ty, tn⟩
                            · rw [decide_eq_true htp] at HTM
                              have HN := Lib.hid (HNEXT.out ⟨all_getD (opP p) ops opNone HOPS.out, htp⟩)
                              clear htp
                              go_wp2_with fail
                              refine (HTM.out _ HC5.out).mono ?_
                              rintro e w6 ⟨rfl, hb6⟩
                              have HB6 := Lib.hid (bch (bch (bch HK2.out HB4.out) HK5.out) hb6)
                              clear hb6
                              go_wp2_with fail
                              go_roundw
                              case rel => exact ⟨k + 1, by omega, by go_num, HB6.out, HN.out⟩
                              case measure => simp [intOf]; omega
                            · rw [decide_eq_false htp] at HTM
                              have hR := HR2.out (HBAD.out (fun h => htp h.2))
                              subst hR
                              clear htp
                              go_wp2_with fail
                              refine (HTM.out _ HC5.out).mono ?_
                              rintro e w6 ⟨rfl, hb6⟩
                              have HB6 := Lib.hid (bch HB1.out (bch HKK5.out hb6))
                              clear hb6
                              go_wp2_with fail
                              go_ret
                              exact ⟨rfl, HB6.out⟩
                      · obtain rfl : k = p.blocks.length := by omega
                        have hR := HR0.out ⟨HHEAD.out, by rw [HEND.out]; rfl, all_getD (blkP p) p.blocks blkNone HALL.out⟩
                        subst hR
                        clear hall hK2
                        go_wp2_with fail
                        go_ret
                        exact ⟨rfl, bch HB1.out HKK.out⟩
            · clear t1 t2
              have hR := HR2.out (fun h => by have h2 := h.1; unfold headP at h2; omega)
              subst hR
              go_wp2_with fail
              go_ret
              exact ⟨rfl, bch HB1.out HB3.out⟩
          · have q4 : (p.out % 4 != 0) = true := by rw [bne_iff_ne]; exact i4
            clear t1 t2
            have hR := HR2.out (fun h => by have h2 := h.1; unfold headP at h2; omega)
            subst hR
            go_wp2_with fail
            go_ret
            exact ⟨rfl, bch HB1.out HB3.out⟩
        · have q3 : (p.inp % 4 != 0) = true := by rw [bne_iff_ne]; exact i3
          clear t1 t2
          have hR := HR2.out (fun h => by have h2 := h.1; unfold headP at h2; omega)
          subst hR
          go_wp2_with fail
          go_ret
          exact ⟨rfl, bch HB1.out HB3.out⟩
      · rw [decide_eq_false i2] at HW2
        refine HW2.out.mono ?_
        rintro e w' ⟨rfl, rfl⟩
        have hR := HR2.out (fun h => by have h2 := h.1; unfold headP at h2; omega)
        subst hR
        go_wp2_with fail
        go_ret
        exact ⟨rfl, bch HB1.out HB3.out⟩
    · rw [decide_eq_false i1] at HW1
      refine HW1.out.mono ?_
      rintro e w' ⟨rfl, rfl⟩
      have hR := HR2.out (fun h => by have h2 := h.1; unfold headP at h2; omega)
      subst hR
      go_wp2_with fail
      go_ret
      exact ⟨rfl, bch HB1.out HB3.out⟩
end Go.Proofs.Ythkobddggoojlaa
