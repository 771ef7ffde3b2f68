/- Parts of a proof. No condition but those that each theorem names. -/
import Derived.WalkKit
import Derived.OpenShut
import Derived.Below
import Derived.Lib.Hide
import Derived.Laws.OwnMore
import Derived.Deep.QuietTactic
import Derived.Deep.AppendLies
import Derived.ProofKit
import Derived.SizedLaws
import Derived.Test.YthkobddggoojlaaProg
import Derived.Handy
import Derived.Deep.RegionHeld3
import Derived.BigQuiet
import Derived.Maps.AppendAt
import Derived.StillTailTactics
import Derived.Laws.CopyOwn
import Derived.Lib.BufferWrite
import Derived.OrdersHeld
import Derived.RegionTactic
import Derived.Orders
import Derived.Deep.RegionHeld
import Derived.Deep.DeepCutAuto
import Derived.Test.YthkobddggoojlaaTeG0e0
import Derived.Test.YthkobddggoojlaaTeG0e1
import Derived.Test.YthkobddggoojlaaTeG0e2
import Derived.Test.YthkobddggoojlaaTeG0e4
import Derived.Test.YthkobddggoojlaaTeIrC
import Derived.Test.YthkobddggoojlaaTeG1e6
import Derived.Test.YthkobddggoojlaaTeG0e13
import Derived.Test.YthkobddggoojlaaTeG1e15
import Derived.Test.YthkobddggoojlaaTeG0e26
import Derived.Test.YthkobddggoojlaaTeG0abe26
namespace Go.Proofs.Ythkobddggoojlaa
open Go.RowKit
set_option linter.unusedVariables false
set_option maxRecDepth 100000 in
set_option maxHeartbeats 8000000 in
theorem ref17_Same (p : Ir) (hf : p.fine) (av bv cv dv : Value) (w : World) (hI : IrRep w w.heap.size p av bv) (hJ : IrRep w w.heap.size p cv dv) :
    Calls Try.prog 10 #[irVal p av bv, irVal p cv dv] w fun e w' => e = .returned (.bool true) ∧ Below w.heap.size w w' := by
  obtain ⟨_, _, _, hna, hnb, _, hfb⟩ := hf
  have HFB : Hid (∀ k, k < p.blocks.length → (p.blocks.getD k blkNone).ops.length ≤ 4398046511104) := Lib.hid (fun k hk => (hfb _ (getD_memI p.blocks k blkNone hk)).1)
  clear hfb
  obtain ⟨AA, ac, rfl, hac⟩ := hI.1.form
  obtain ⟨BA, bc, rfl, hbc⟩ := hI.2.form
  obtain ⟨CA, cc, rfl, hcc⟩ := hJ.1.form
  obtain ⟨DA, dc, rfl, hdc⟩ := hJ.2.form
  have HI := Lib.hid hI
  have HJ := Lib.hid hJ
  unfold irVal
  obtain ⟨hx0, hx1⟩ : ((w.alloc (.cells #[.int .i64 p.temps, (.slice AA p.arrays.length ac), .slice BA p.blocks.length bc, .int .i64 p.inp, .int .i64 p.out] 25)).alloc (.cells #[.int .i64 p.temps, (.slice CA p.arrays.length cc), .slice DA p.blocks.length dc, .int .i64 p.inp, .int .i64 p.out] 25)).heap[w.heap.size]? = some (.cells #[.int .i64 p.temps, (.slice AA p.arrays.length ac), .slice BA p.blocks.length bc, .int .i64 p.inp, .int .i64 p.out] 25 (0, 0)) ∧
      ((w.alloc (.cells #[.int .i64 p.temps, (.slice AA p.arrays.length ac), .slice BA p.blocks.length bc, .int .i64 p.inp, .int .i64 p.out] 25)).alloc (.cells #[.int .i64 p.temps, (.slice CA p.arrays.length cc), .slice DA p.blocks.length dc, .int .i64 p.inp, .int .i64 p.out] 25)).heap[w.heap.size + 1]? = some (.cells #[.int .i64 p.temps, (.slice CA p.arrays.length cc), .slice DA p.blocks.length dc, .int .i64 p.inp, .int .i64 p.out] 25 (0, 0)) := by
    have e := alloc_size w (.cells #[.int .i64 p.temps, (.slice AA p.arrays.length ac), .slice BA p.blocks.length bc, .int .i64 p.inp, .int .i64 p.out] 25) rfl
    exact ⟨alloc_old (alloc_last w _ rfl _) _, alloc_last _ _ e _⟩
  have hb1 := bal (bnew w (.cells #[.int .i64 p.temps, (.slice AA p.arrays.length ac), .slice BA p.blocks.length bc, .int .i64 p.inp, .int .i64 p.out] 25)) (.cells #[.int .i64 p.temps, (.slice CA p.arrays.length cc), .slice DA p.blocks.length dc, .int .i64 p.inp, .int .i64 p.out] 25)
  have hz1 : ((w.alloc (.cells #[.int .i64 p.temps, (.slice AA p.arrays.length ac), .slice BA p.blocks.length bc, .int .i64 p.inp, .int .i64 p.out] 25)).alloc (.cells #[.int .i64 p.temps, (.slice CA p.arrays.length cc), .slice DA p.blocks.length dc, .int .i64 p.inp, .int .i64 p.out] 25)).heap.size = w.heap.size + 1 + 1 := alloc_size _ _ (alloc_size w _ rfl)
  clear hI hJ
  go_enter Try.func10, Try.ntmps10
  go_upto_region 1 with (fail)
  generalize (w.alloc (.cells #[.int .i64 p.temps, (.slice AA p.arrays.length ac), .slice BA p.blocks.length bc, .int .i64 p.inp, .int .i64 p.out] 25)).alloc (.cells #[.int .i64 p.temps, (.slice CA p.arrays.length cc), .slice DA p.blocks.length dc, .int .i64 p.inp, .int .i64 p.out] 25) = w1 at *
  obtain ⟨c0, c1, c2, c3, c4, _⟩ := ir_cells_at hx0
  obtain ⟨d0, d1, d2, d3, d4, _⟩ := ir_cells_at hx1
  have HX0 := Lib.hid hx0
  have HX1 := Lib.hid hx1
  have HB1 := Lib.hid hb1
  have HZ1 := Lib.hid hz1
  clear hx0 hx1 hb1 hz1
  go_wp2_with fail
  clear c0 c1 c2 c3 c4 d0 d1 d2 d3 d4
  go_loopw [5] (fun vi wr => ∃ (k : Nat), k ≤ p.arrays.length ∧ vi = .int .i64 k ∧ Below w1.heap.size w1 wr) (fun vi _ => p.arrays.length - (intOf vi).toNat)
  case atStart => exact ⟨0, Nat.zero_le _, rfl, Below.refl _ _⟩
  case round =>
    obtain ⟨k, hk, rfl, hBW⟩ := hrel
    have hz1 := HZ1.out
    have HX := Lib.hid ((hBW.block w.heap.size (by omega)).trans HX0.out)
    have HY := Lib.hid ((hBW.block (w.heap.size + 1) (by omega)).trans HX1.out)
    have HBW := Lib.hid hBW
    obtain ⟨c0, c1, c2, c3, c4, _⟩ := ir_cells_at HX.out
    obtain ⟨d0, d1, d2, d3, d4, _⟩ := ir_cells_at HY.out
    clear hBW hz1
    by_cases hlt : k < p.arrays.length
    · have hbw := HB1.out.trans (HBW.out.mono HB1.out.size)
      obtain ⟨b, off, rfl, hb0, x0, x1, x2, x3⟩ := arr_at (HI.out.1.below hbw (Nat.le_refl _)) k hlt
      obtain ⟨b', off', rfl, hb0', y0, y1, y2, y3⟩ := arr_at (HJ.out.1.below hbw (Nat.le_refl _)) k hlt
      generalize p.arrays.getD k arrNone = o at *
      have k0 : (0 : Int) ≤ (k : Int) := by omega
      have k1 : (k : Int) < (p.arrays.length : Int) := by omega
      clear hbw
      go_wp2_with fail
      go_quiet (fail)
      go_wp2_with fail
      go_roundw
      case rel => exact ⟨k + 1, by omega, by go_num, bdrawn HBW.out _⟩
      case measure => simp [intOf]; omega
    · obtain rfl : k = p.arrays.length := by omega
      go_wp2_with fail
      clear c0 c1 c2 c3 c4 d0 d1 d2 d3 d4
      generalize wr = w3 at *
      go_loopw [6] (fun vi wr => ∃ (k : Nat), k ≤ p.blocks.length ∧ vi = .int .i64 k ∧ Below w1.heap.size w1 wr) (fun vi _ => p.blocks.length - (intOf vi).toNat)
      case atStart => exact ⟨0, Nat.zero_le _, rfl, HBW.out⟩
      case round =>
        obtain ⟨k, hk2, rfl, hBW⟩ := hrel
        have hz1 := HZ1.out
        have HXX := Lib.hid ((hBW.block w.heap.size (by omega)).trans HX0.out)
        have HYY := Lib.hid ((hBW.block (w.heap.size + 1) (by omega)).trans HX1.out)
        have HBV := Lib.hid hBW
        obtain ⟨c0, c1, c2, c3, c4, _⟩ := ir_cells_at HXX.out
        obtain ⟨d0, d1, d2, d3, d4, _⟩ := ir_cells_at HYY.out
        clear hBW hz1
        by_cases hlt : k < p.blocks.length
        · have hbw := HB1.out.trans (HBV.out.mono HB1.out.size)
          obtain ⟨b, off, rfl, hb0, OA, oc, hops, hoc, x0, x1, x2, x3, x4⟩ := blk_at (HI.out.2.below hbw (Nat.le_refl _)) k hlt
          obtain ⟨b', off', rfl, hb0', PA, pc, hpps, hpc, y0, y1, y2, y3, y4⟩ := blk_at (HJ.out.2.below hbw (Nat.le_refl _)) k hlt
          have hops1 := HFB.out k hlt
          generalize p.blocks.getD k blkNone = bk at *
          obtain ⟨ops, trm⟩ := bk
          obtain ⟨tk, ta, ty, tn⟩ := trm
          simp only at hops hpps hops1 hoc hpc x0 x1 x2 x3 x4 y0 y1 y2 y3 y4
          have k0 : (0 : Int) ≤ (k : Int) := by omega
          have k1 : (k : Int) < (p.blocks.length : Int) := by omega
          have HOP := Lib.hid hops
          have HPP := Lib.hid hpps
          have hwr := hbw.size
          have LT0 : w.heap.size < wr.heap.size := by have := HBV.out.size; have := HZ1.out; omega
          have LT1 : w.heap.size + 1 < wr.heap.size := by have := HBV.out.size; have := HZ1.out; omega
          have LTB : b < wr.heap.size := by omega
          have LTC : b' < wr.heap.size := by omega
          have hBrf := Below.refl wr.heap.size wr
          clear hbw hops hpps hwr
          go_wp2_with fail
          refine region_inv2 (by kernel_rfl) (by kernel_rfl) (fun a0 L a wv => ∃ (u72 u73 u74 u75 u76 u77 u78 u79 u80 u81 u7 u8 : Value) (g7 g8 : Nat) (p7_0 p7_1 p7_2 p7_3 p7_4 p8_0 p8_1 p8_2 p8_3 p8_4 : Value), a = ((((((((((((a0.put (some 72) u72).put (some 73) u73).put (some 74) u74).put (some 75) u75).put (some 76) u76).put (some 77) u77).put (some 78) u78).put (some 79) u79).put (some 80) u80).put (some 81) u81).put (some 7) u7).put (some 8) u8) ∧ Below wr.heap.size wr wv ∧ (Up L 0 → u72 = .pointer (some ⟨w.heap.size, 2, none⟩)) ∧ (Up L 1 → u73 = .slice (some ⟨b, off, none⟩) p.blocks.length bc) ∧ (Up L 2 → u74 = .int .i64 (k : Int)) ∧ (Up L 3 → u75 = .pointer (some ⟨b, off + k * 5, none⟩)) ∧ (Up L 4 → u76 = .agg #[.slice OA ops.length oc, .int .i64 tk, .int .i64 ta, .int .i64 ty, .int .i64 tn]) ∧ (Up L 5 → u77 = .pointer (some ⟨w.heap.size + 1, 2, none⟩)) ∧ (Up L 6 → u78 = .slice (some ⟨b', off', none⟩) p.blocks.length dc) ∧ (Up L 7 → u79 = .int .i64 (k : Int)) ∧ (Up L 8 → u80 = .pointer (some ⟨b', off' + k * 5, none⟩)) ∧ (Up L 9 → u81 = .agg #[.slice PA ops.length pc, .int .i64 tk, .int .i64 ta, .int .i64 ty, .int .i64 tn]) ∧ (Up L 10 → u7 = .pointer (some ⟨g7, 0, none⟩) ∧ wr.heap.size ≤ g7 ∧ wv.heap[g7]? = some (.cells #[p7_0, p7_1, p7_2, p7_3, p7_4] 40 (0, 0))) ∧ (Up L 11 → u8 = .pointer (some ⟨g8, 0, none⟩) ∧ wr.heap.size ≤ g8 ∧ wv.heap[g8]? = some (.cells #[p8_0, p8_1, p8_2, p8_3, p8_4] 40 (0, 0))) ∧ (Up L 12 → Up L 10 ∧ p7_0 = .slice OA ops.length oc ∧ p7_1 = .int .i64 tk ∧ p7_2 = .int .i64 ta ∧ p7_3 = .int .i64 ty ∧ p7_4 = .int .i64 tn) ∧ (Up L 13 → Up L 11 ∧ p8_0 = .slice PA ops.length pc ∧ p8_1 = .int .i64 tk ∧ p8_2 = .int .i64 ta ∧ p8_3 = .int .i64 ty ∧ p8_4 = .int .i64 tn) ∧ (Up L 10 → Up L 11 → g7 ≠ g8)) ?h0 ?hs ?hend
          case h0 =>
            refine ⟨?q1, ?q2, ?q3, ?q4, ?q5, ?q6, ?q7, ?q8, ?q9, ?q10, ?q11, ?q12, 0, 0, undef, undef, undef, undef, undef, undef, undef, undef, undef, undef, ?ha, Below.drew (by assumption), fun h => absurd h (by unfold Up; decide), fun h => absurd h (by unfold Up; decide), fun h => absurd h (by unfold Up; decide), fun h => absurd h (by unfold Up; decide), fun h => absurd h (by unfold Up; decide), fun h => absurd h (by unfold Up; decide), fun h => absurd h (by unfold Up; decide), fun h => absurd h (by unfold Up; decide), fun h => absurd h (by unfold Up; decide), fun h => absurd h (by unfold Up; decide), fun h => absurd h (by unfold Up; decide), fun h => absurd h (by unfold Up; decide), fun h => absurd h (by unfold Up; decide), fun h => absurd h (by unfold Up; decide), fun h => absurd h (by unfold Up; decide)⟩
            case ha => (try simp only [Act.put, List.setIfInBounds_toArray, List.set_cons_zero, List.set_cons_succ]); rfl
          case hs =>
            refine Steps.cons_ ?_ (Steps.cons_ ?_ (Steps.cons_ ?_ (Steps.cons_ ?_ (Steps.cons_ ?_ (Steps.cons_ ?_ (Steps.cons_ ?_ (Steps.cons_ ?_ (Steps.cons_ ?_ (Steps.cons_ ?_ (Steps.cons_ ?_ (Steps.cons_ ?_ (Steps.cons_ ?_ (Steps.cons_ ?_ (Steps.nil_))))))))))))))
            · rintro L a wv ⟨u72, u73, u74, u75, u76, u77, u78, u79, u80, u81, u7, u8, g7, g8, p7_0, p7_1, p7_2, p7_3, p7_4, p8_0, p8_1, p8_2, p8_3, p8_4, rfl, hB, f0, f1, f2, f3, f4, f5, f6, f7, f8, f9, f10, f11, f12, f13, d0_1⟩ hnu hd K' hK
              clear hd
              clear f0
              have Hf1 := Lib.hid f1
              clear f1
              have Hf2 := Lib.hid f2
              clear f2
              have Hf3 := Lib.hid f3
              clear f3
              have Hf4 := Lib.hid f4
              clear f4
              have Hf5 := Lib.hid f5
              clear f5
              have Hf6 := Lib.hid f6
              clear f6
              have Hf7 := Lib.hid f7
              clear f7
              have Hf8 := Lib.hid f8
              clear f8
              have Hf9 := Lib.hid f9
              clear f9
              have Hf10 := Lib.hid f10
              clear f10
              have Hf11 := Lib.hid f11
              clear f11
              have Hf12 := Lib.hid f12
              clear f12
              have Hf13 := Lib.hid f13
              clear f13
              have Hd0_1 := Lib.hid d0_1
              clear d0_1
              have HB := Lib.hid hB
              clear hB
              try clear hd
              simp only [Act.put, List.setIfInBounds_toArray, List.set_cons_zero, List.set_cons_succ]
              go_simp
              have f1 := Hf1.out
              have f2 := Hf2.out
              have f3 := Hf3.out
              have f4 := Hf4.out
              have f5 := Hf5.out
              have f6 := Hf6.out
              have f7 := Hf7.out
              have f8 := Hf8.out
              have f9 := Hf9.out
              have f10 := Hf10.out
              have f11 := Hf11.out
              have f12 := Hf12.out
              have f13 := Hf13.out
              have d0_1 := Hd0_1.out
              refine hK.out _ _ ⟨(.pointer (some ⟨w.heap.size, 2, none⟩)), u73, u74, u75, u76, u77, u78, u79, u80, u81, u7, u8, g7, g8, p7_0, p7_1, p7_2, p7_3, p7_4, p8_0, p8_1, p8_2, p8_3, p8_4, ?ha, HB.out, fun _ => rfl, fun h => f1 (up_set (by decide) h), fun h => f2 (up_set (by decide) h), fun h => f3 (up_set (by decide) h), fun h => f4 (up_set (by decide) h), fun h => f5 (up_set (by decide) h), fun h => f6 (up_set (by decide) h), fun h => f7 (up_set (by decide) h), fun h => f8 (up_set (by decide) h), fun h => f9 (up_set (by decide) h), fun h => f10 (up_set (by decide) h), fun h => f11 (up_set (by decide) h), fun h => ⟨up_keep (f12 (up_set (by decide) h)).1, (f12 (up_set (by decide) h)).2⟩, fun h => ⟨up_keep (f13 (up_set (by decide) h)).1, (f13 (up_set (by decide) h)).2⟩, fun h1 h2 => d0_1 (up_set (by decide) h1) (up_set (by decide) h2)⟩
              case ha => simp only [Act.put, List.setIfInBounds_toArray, List.set_cons_zero, List.set_cons_succ]
            · rintro L a wv ⟨u72, u73, u74, u75, u76, u77, u78, u79, u80, u81, u7, u8, g7, g8, p7_0, p7_1, p7_2, p7_3, p7_4, p8_0, p8_1, p8_2, p8_3, p8_4, rfl, hB, f0, f1, f2, f3, f4, f5, f6, f7, f8, f9, f10, f11, f12, f13, d0_1⟩ hnu hd K' hK
              simp [Region.binds] at hd
              have e72 := f0 (by simp [hd])
              subst e72
              have Hf0 := Lib.hid f0
              clear f0
              clear f1
              have Hf2 := Lib.hid f2
              clear f2
              have Hf3 := Lib.hid f3
              clear f3
              have Hf4 := Lib.hid f4
              clear f4
              have Hf5 := Lib.hid f5
              clear f5
              have Hf6 := Lib.hid f6
              clear f6
              have Hf7 := Lib.hid f7
              clear f7
              have Hf8 := Lib.hid f8
              clear f8
              have Hf9 := Lib.hid f9
              clear f9
              have Hf10 := Lib.hid f10
              clear f10
              have Hf11 := Lib.hid f11
              clear f11
              have Hf12 := Lib.hid f12
              clear f12
              have Hf13 := Lib.hid f13
              clear f13
              have Hd0_1 := Lib.hid d0_1
              clear d0_1
              have HB := Lib.hid hB
              clear hB
              try clear hd
              simp only [Act.put, List.setIfInBounds_toArray, List.set_cons_zero, List.set_cons_succ]
              have k1 := (HB.out.cell (p := ⟨w.heap.size, 2, none⟩) (LT0)).trans c2
              go_simp
              have f0 := Hf0.out
              have f2 := Hf2.out
              have f3 := Hf3.out
              have f4 := Hf4.out
              have f5 := Hf5.out
              have f6 := Hf6.out
              have f7 := Hf7.out
              have f8 := Hf8.out
              have f9 := Hf9.out
              have f10 := Hf10.out
              have f11 := Hf11.out
              have f12 := Hf12.out
              have f13 := Hf13.out
              have d0_1 := Hd0_1.out
              refine hK.out _ _ ⟨(.pointer (some ⟨w.heap.size, 2, none⟩)), (.slice (some ⟨b, off, none⟩) p.blocks.length bc), u74, u75, u76, u77, u78, u79, u80, u81, u7, u8, g7, g8, p7_0, p7_1, p7_2, p7_3, p7_4, p8_0, p8_1, p8_2, p8_3, p8_4, ?ha, HB.out, fun _ => rfl, fun _ => rfl, fun h => f2 (up_set (by decide) h), fun h => f3 (up_set (by decide) h), fun h => f4 (up_set (by decide) h), fun h => f5 (up_set (by decide) h), fun h => f6 (up_set (by decide) h), fun h => f7 (up_set (by decide) h), fun h => f8 (up_set (by decide) h), fun h => f9 (up_set (by decide) h), fun h => f10 (up_set (by decide) h), fun h => f11 (up_set (by decide) h), fun h => ⟨up_keep (f12 (up_set (by decide) h)).1, (f12 (up_set (by decide) h)).2⟩, fun h => ⟨up_keep (f13 (up_set (by decide) h)).1, (f13 (up_set (by decide) h)).2⟩, fun h1 h2 => d0_1 (up_set (by decide) h1) (up_set (by decide) h2)⟩
              case ha => simp only [Act.put, List.setIfInBounds_toArray, List.set_cons_zero, List.set_cons_succ]
            · rintro L a wv ⟨u72, u73, u74, u75, u76, u77, u78, u79, u80, u81, u7, u8, g7, g8, p7_0, p7_1, p7_2, p7_3, p7_4, p8_0, p8_1, p8_2, p8_3, p8_4, rfl, hB, f0, f1, f2, f3, f4, f5, f6, f7, f8, f9, f10, f11, f12, f13, d0_1⟩ hnu hd K' hK
              clear hd
              have Hf0 := Lib.hid f0
              clear f0
              have Hf1 := Lib.hid f1
              clear f1
              clear f2
              have Hf3 := Lib.hid f3
              clear f3
              have Hf4 := Lib.hid f4
              clear f4
              have Hf5 := Lib.hid f5
              clear f5
              have Hf6 := Lib.hid f6
              clear f6
              have Hf7 := Lib.hid f7
              clear f7
              have Hf8 := Lib.hid f8
              clear f8
              have Hf9 := Lib.hid f9
              clear f9
              have Hf10 := Lib.hid f10
              clear f10
              have Hf11 := Lib.hid f11
              clear f11
              have Hf12 := Lib.hid f12
              clear f12
              have Hf13 := Lib.hid f13
              clear f13
              have Hd0_1 := Lib.hid d0_1
              clear d0_1
              have HB := Lib.hid hB
              clear hB
              try clear hd
              simp only [Act.put, List.setIfInBounds_toArray, List.set_cons_zero, List.set_cons_succ]
              go_simp
              have f0 := Hf0.out
              have f1 := Hf1.out
              have f3 := Hf3.out
              have f4 := Hf4.out
              have f5 := Hf5.out
              have f6 := Hf6.out
              have f7 := Hf7.out
              have f8 := Hf8.out
              have f9 := Hf9.out
              have f10 := Hf10.out
              have f11 := Hf11.out
              have f12 := Hf12.out
              have f13 := Hf13.out
              have d0_1 := Hd0_1.out
              refine hK.out _ _ ⟨u72, u73, (.int .i64 (k : Int)), u75, u76, u77, u78, u79, u80, u81, u7, u8, g7, g8, p7_0, p7_1, p7_2, p7_3, p7_4, p8_0, p8_1, p8_2, p8_3, p8_4, ?ha, HB.out, fun h => f0 (up_set (by decide) h), fun h => f1 (up_set (by decide) h), fun _ => rfl, fun h => f3 (up_set (by decide) h), fun h => f4 (up_set (by decide) h), fun h => f5 (up_set (by decide) h), fun h => f6 (up_set (by decide) h), fun h => f7 (up_set (by decide) h), fun h => f8 (up_set (by decide) h), fun h => f9 (up_set (by decide) h), fun h => f10 (up_set (by decide) h), fun h => f11 (up_set (by decide) h), fun h => ⟨up_keep (f12 (up_set (by decide) h)).1, (f12 (up_set (by decide) h)).2⟩, fun h => ⟨up_keep (f13 (up_set (by decide) h)).1, (f13 (up_set (by decide) h)).2⟩, fun h1 h2 => d0_1 (up_set (by decide) h1) (up_set (by decide) h2)⟩
              case ha => simp only [Act.put, List.setIfInBounds_toArray, List.set_cons_zero, List.set_cons_succ]
            · rintro L a wv ⟨u72, u73, u74, u75, u76, u77, u78, u79, u80, u81, u7, u8, g7, g8, p7_0, p7_1, p7_2, p7_3, p7_4, p8_0, p8_1, p8_2, p8_3, p8_4, rfl, hB, f0, f1, f2, f3, f4, f5, f6, f7, f8, f9, f10, f11, f12, f13, d0_1⟩ hnu hd K' hK
              simp [Region.binds] at hd
              have e73 := f1 (by simp [hd])
              subst e73
              have e74 := f2 (by simp [hd])
              subst e74
              have Hf0 := Lib.hid f0
              clear f0
              have Hf1 := Lib.hid f1
              clear f1
              have Hf2 := Lib.hid f2
              clear f2
              clear f3
              have Hf4 := Lib.hid f4
              clear f4
              have Hf5 := Lib.hid f5
              clear f5
              have Hf6 := Lib.hid f6
              clear f6
              have Hf7 := Lib.hid f7
              clear f7
              have Hf8 := Lib.hid f8
              clear f8
              have Hf9 := Lib.hid f9
              clear f9
              have Hf10 := Lib.hid f10
              clear f10
              have Hf11 := Lib.hid f11
              clear f11
              have Hf12 := Lib.hid f12
              clear f12
              have Hf13 := Lib.hid f13
              clear f13
              have Hd0_1 := Lib.hid d0_1
              clear d0_1
              have HB := Lib.hid hB
              clear hB
              try clear hd
              simp only [Act.put, List.setIfInBounds_toArray, List.set_cons_zero, List.set_cons_succ]
              go_simp
              have f0 := Hf0.out
              have f1 := Hf1.out
              have f2 := Hf2.out
              have f4 := Hf4.out
              have f5 := Hf5.out
              have f6 := Hf6.out
              have f7 := Hf7.out
              have f8 := Hf8.out
              have f9 := Hf9.out
              have f10 := Hf10.out
              have f11 := Hf11.out
              have f12 := Hf12.out
              have f13 := Hf13.out
              have d0_1 := Hd0_1.out
              refine hK.out _ _ ⟨u72, (.slice (some ⟨b, off, none⟩) p.blocks.length bc), (.int .i64 (k : Int)), (.pointer (some ⟨b, off + k * 5, none⟩)), u76, u77, u78, u79, u80, u81, u7, u8, g7, g8, p7_0, p7_1, p7_2, p7_3, p7_4, p8_0, p8_1, p8_2, p8_3, p8_4, ?ha, HB.out, fun h => f0 (up_set (by decide) h), fun _ => rfl, fun _ => rfl, fun _ => rfl, fun h => f4 (up_set (by decide) h), fun h => f5 (up_set (by decide) h), fun h => f6 (up_set (by decide) h), fun h => f7 (up_set (by decide) h), fun h => f8 (up_set (by decide) h), fun h => f9 (up_set (by decide) h), fun h => f10 (up_set (by decide) h), fun h => f11 (up_set (by decide) h), fun h => ⟨up_keep (f12 (up_set (by decide) h)).1, (f12 (up_set (by decide) h)).2⟩, fun h => ⟨up_keep (f13 (up_set (by decide) h)).1, (f13 (up_set (by decide) h)).2⟩, fun h1 h2 => d0_1 (up_set (by decide) h1) (up_set (by decide) h2)⟩
              case ha => simp only [Act.put, List.setIfInBounds_toArray, List.set_cons_zero, List.set_cons_succ]
            · rintro L a wv ⟨u72, u73, u74, u75, u76, u77, u78, u79, u80, u81, u7, u8, g7, g8, p7_0, p7_1, p7_2, p7_3, p7_4, p8_0, p8_1, p8_2, p8_3, p8_4, rfl, hB, f0, f1, f2, f3, f4, f5, f6, f7, f8, f9, f10, f11, f12, f13, d0_1⟩ hnu hd K' hK
              simp [Region.binds] at hd
              have e75 := f3 (by simp [hd])
              subst e75
              have Hf0 := Lib.hid f0
              clear f0
              have Hf1 := Lib.hid f1
              clear f1
              have Hf2 := Lib.hid f2
              clear f2
              have Hf3 := Lib.hid f3
              clear f3
              clear f4
              have Hf5 := Lib.hid f5
              clear f5
              have Hf6 := Lib.hid f6
              clear f6
              have Hf7 := Lib.hid f7
              clear f7
              have Hf8 := Lib.hid f8
              clear f8
              have Hf9 := Lib.hid f9
              clear f9
              have Hf10 := Lib.hid f10
              clear f10
              have Hf11 := Lib.hid f11
              clear f11
              have Hf12 := Lib.hid f12
              clear f12
              have Hf13 := Lib.hid f13
              clear f13
              have Hd0_1 := Lib.hid d0_1
              clear d0_1
              have HB := Lib.hid hB
              clear hB
              try clear hd
              simp only [Act.put, List.setIfInBounds_toArray, List.set_cons_zero, List.set_cons_succ]
              have k0 := (HB.out.cell (p := ⟨b, off + k * 5, none⟩) (LTB)).trans x0
              have k1 := (HB.out.cell (p := ⟨b, off + k * 5 + 1, none⟩) (LTB)).trans x1
              have k2 := (HB.out.cell (p := ⟨b, off + k * 5 + 2, none⟩) (LTB)).trans x2
              have k3 := (HB.out.cell (p := ⟨b, off + k * 5 + 3, none⟩) (LTB)).trans x3
              have k4 := (HB.out.cell (p := ⟨b, off + k * 5 + 4, none⟩) (LTB)).trans x4
              go_simp
              have f0 := Hf0.out
              have f1 := Hf1.out
              have f2 := Hf2.out
              have f3 := Hf3.out
              have f5 := Hf5.out
              have f6 := Hf6.out
              have f7 := Hf7.out
              have f8 := Hf8.out
              have f9 := Hf9.out
              have f10 := Hf10.out
              have f11 := Hf11.out
              have f12 := Hf12.out
              have f13 := Hf13.out
              have d0_1 := Hd0_1.out
              refine hK.out _ _ ⟨u72, u73, u74, (.pointer (some ⟨b, off + k * 5, none⟩)), (.agg #[.slice OA ops.length oc, .int .i64 tk, .int .i64 ta, .int .i64 ty, .int .i64 tn]), u77, u78, u79, u80, u81, u7, u8, g7, g8, p7_0, p7_1, p7_2, p7_3, p7_4, p8_0, p8_1, p8_2, p8_3, p8_4, ?ha, HB.out, fun h => f0 (up_set (by decide) h), fun h => f1 (up_set (by decide) h), fun h => f2 (up_set (by decide) h), fun _ => rfl, fun _ => rfl, fun h => f5 (up_set (by decide) h), fun h => f6 (up_set (by decide) h), fun h => f7 (up_set (by decide) h), fun h => f8 (up_set (by decide) h), fun h => f9 (up_set (by decide) h), fun h => f10 (up_set (by decide) h), fun h => f11 (up_set (by decide) h), fun h => ⟨up_keep (f12 (up_set (by decide) h)).1, (f12 (up_set (by decide) h)).2⟩, fun h => ⟨up_keep (f13 (up_set (by decide) h)).1, (f13 (up_set (by decide) h)).2⟩, fun h1 h2 => d0_1 (up_set (by decide) h1) (up_set (by decide) h2)⟩
              case ha => simp only [Act.put, List.setIfInBounds_toArray, List.set_cons_zero, List.set_cons_succ]
            · rintro L a wv ⟨u72, u73, u74, u75, u76, u77, u78, u79, u80, u81, u7, u8, g7, g8, p7_0, p7_1, p7_2, p7_3, p7_4, p8_0, p8_1, p8_2, p8_3, p8_4, rfl, hB, f0, f1, f2, f3, f4, f5, f6, f7, f8, f9, f10, f11, f12, f13, d0_1⟩ hnu hd K' hK
              clear hd
              have Hf0 := Lib.hid f0
              clear f0
              have Hf1 := Lib.hid f1
              clear f1
              have Hf2 := Lib.hid f2
              clear f2
              have Hf3 := Lib.hid f3
              clear f3
              have Hf4 := Lib.hid f4
              clear f4
              clear f5
              have Hf6 := Lib.hid f6
              clear f6
              have Hf7 := Lib.hid f7
              clear f7
              have Hf8 := Lib.hid f8
              clear f8
              have Hf9 := Lib.hid f9
              clear f9
              have Hf10 := Lib.hid f10
              clear f10
              have Hf11 := Lib.hid f11
              clear f11
              have Hf12 := Lib.hid f12
              clear f12
              have Hf13 := Lib.hid f13
              clear f13
              have Hd0_1 := Lib.hid d0_1
              clear d0_1
              have HB := Lib.hid hB
              clear hB
              try clear hd
              simp only [Act.put, List.setIfInBounds_toArray, List.set_cons_zero, List.set_cons_succ]
              go_simp
              have f0 := Hf0.out
              have f1 := Hf1.out
              have f2 := Hf2.out
              have f3 := Hf3.out
              have f4 := Hf4.out
              have f6 := Hf6.out
              have f7 := Hf7.out
              have f8 := Hf8.out
              have f9 := Hf9.out
              have f10 := Hf10.out
              have f11 := Hf11.out
              have f12 := Hf12.out
              have f13 := Hf13.out
              have d0_1 := Hd0_1.out
              refine hK.out _ _ ⟨u72, u73, u74, u75, u76, (.pointer (some ⟨w.heap.size + 1, 2, none⟩)), u78, u79, u80, u81, u7, u8, g7, g8, p7_0, p7_1, p7_2, p7_3, p7_4, p8_0, p8_1, p8_2, p8_3, p8_4, ?ha, HB.out, fun h => f0 (up_set (by decide) h), fun h => f1 (up_set (by decide) h), fun h => f2 (up_set (by decide) h), fun h => f3 (up_set (by decide) h), fun h => f4 (up_set (by decide) h), fun _ => rfl, fun h => f6 (up_set (by decide) h), fun h => f7 (up_set (by decide) h), fun h => f8 (up_set (by decide) h), fun h => f9 (up_set (by decide) h), fun h => f10 (up_set (by decide) h), fun h => f11 (up_set (by decide) h), fun h => ⟨up_keep (f12 (up_set (by decide) h)).1, (f12 (up_set (by decide) h)).2⟩, fun h => ⟨up_keep (f13 (up_set (by decide) h)).1, (f13 (up_set (by decide) h)).2⟩, fun h1 h2 => d0_1 (up_set (by decide) h1) (up_set (by decide) h2)⟩
              case ha => simp only [Act.put, List.setIfInBounds_toArray, List.set_cons_zero, List.set_cons_succ]
            · rintro L a wv ⟨u72, u73, u74, u75, u76, u77, u78, u79, u80, u81, u7, u8, g7, g8, p7_0, p7_1, p7_2, p7_3, p7_4, p8_0, p8_1, p8_2, p8_3, p8_4, rfl, hB, f0, f1, f2, f3, f4, f5, f6, f7, f8, f9, f10, f11, f12, f13, d0_1⟩ hnu hd K' hK
              simp [Region.binds] at hd
              have e77 := f5 (by simp [hd])
              subst e77
              have Hf0 := Lib.hid f0
              clear f0
              have Hf1 := Lib.hid f1
              clear f1
              have Hf2 := Lib.hid f2
              clear f2
              have Hf3 := Lib.hid f3
              clear f3
              have Hf4 := Lib.hid f4
              clear f4
              have Hf5 := Lib.hid f5
              clear f5
              clear f6
              have Hf7 := Lib.hid f7
              clear f7
              have Hf8 := Lib.hid f8
              clear f8
              have Hf9 := Lib.hid f9
              clear f9
              have Hf10 := Lib.hid f10
              clear f10
              have Hf11 := Lib.hid f11
              clear f11
              have Hf12 := Lib.hid f12
              clear f12
              have Hf13 := Lib.hid f13
              clear f13
              have Hd0_1 := Lib.hid d0_1
              clear d0_1
              have HB := Lib.hid hB
              clear hB
              try clear hd
              simp only [Act.put, List.setIfInBounds_toArray, List.set_cons_zero, List.set_cons_succ]
              have k1 := (HB.out.cell (p := ⟨w.heap.size + 1, 2, none⟩) (LT1)).trans d2
              go_simp
              have f0 := Hf0.out
              have f1 := Hf1.out
              have f2 := Hf2.out
              have f3 := Hf3.out
              have f4 := Hf4.out
              have f5 := Hf5.out
              have f7 := Hf7.out
              have f8 := Hf8.out
              have f9 := Hf9.out
              have f10 := Hf10.out
              have f11 := Hf11.out
              have f12 := Hf12.out
              have f13 := Hf13.out
              have d0_1 := Hd0_1.out
              refine hK.out _ _ ⟨u72, u73, u74, u75, u76, (.pointer (some ⟨w.heap.size + 1, 2, none⟩)), (.slice (some ⟨b', off', none⟩) p.blocks.length dc), u79, u80, u81, u7, u8, g7, g8, p7_0, p7_1, p7_2, p7_3, p7_4, p8_0, p8_1, p8_2, p8_3, p8_4, ?ha, HB.out, fun h => f0 (up_set (by decide) h), fun h => f1 (up_set (by decide) h), fun h => f2 (up_set (by decide) h), fun h => f3 (up_set (by decide) h), fun h => f4 (up_set (by decide) h), fun _ => rfl, fun _ => rfl, fun h => f7 (up_set (by decide) h), fun h => f8 (up_set (by decide) h), fun h => f9 (up_set (by decide) h), fun h => f10 (up_set (by decide) h), fun h => f11 (up_set (by decide) h), fun h => ⟨up_keep (f12 (up_set (by decide) h)).1, (f12 (up_set (by decide) h)).2⟩, fun h => ⟨up_keep (f13 (up_set (by decide) h)).1, (f13 (up_set (by decide) h)).2⟩, fun h1 h2 => d0_1 (up_set (by decide) h1) (up_set (by decide) h2)⟩
              case ha => simp only [Act.put, List.setIfInBounds_toArray, List.set_cons_zero, List.set_cons_succ]
            · rintro L a wv ⟨u72, u73, u74, u75, u76, u77, u78, u79, u80, u81, u7, u8, g7, g8, p7_0, p7_1, p7_2, p7_3, p7_4, p8_0, p8_1, p8_2, p8_3, p8_4, rfl, hB, f0, f1, f2, f3, f4, f5, f6, f7, f8, f9, f10, f11, f12, f13, d0_1⟩ hnu hd K' hK
              clear hd
              have Hf0 := Lib.hid f0
              clear f0
              have Hf1 := Lib.hid f1
              clear f1
              have Hf2 := Lib.hid f2
              clear f2
              have Hf3 := Lib.hid f3
              clear f3
              have Hf4 := Lib.hid f4
              clear f4
              have Hf5 := Lib.hid f5
              clear f5
              have Hf6 := Lib.hid f6
              clear f6
              clear f7
              have Hf8 := Lib.hid f8
              clear f8
              have Hf9 := Lib.hid f9
              clear f9
              have Hf10 := Lib.hid f10
              clear f10
              have Hf11 := Lib.hid f11
              clear f11
              have Hf12 := Lib.hid f12
              clear f12
              have Hf13 := Lib.hid f13
              clear f13
              have Hd0_1 := Lib.hid d0_1
              clear d0_1
              have HB := Lib.hid hB
              clear hB
              try clear hd
              simp only [Act.put, List.setIfInBounds_toArray, List.set_cons_zero, List.set_cons_succ]
              go_simp
              have f0 := Hf0.out
              have f1 := Hf1.out
              have f2 := Hf2.out
              have f3 := Hf3.out
              have f4 := Hf4.out
              have f5 := Hf5.out
              have f6 := Hf6.out
              have f8 := Hf8.out
              have f9 := Hf9.out
              have f10 := Hf10.out
              have f11 := Hf11.out
              have f12 := Hf12.out
              have f13 := Hf13.out
              have d0_1 := Hd0_1.out
              refine hK.out _ _ ⟨u72, u73, u74, u75, u76, u77, u78, (.int .i64 (k : Int)), u80, u81, u7, u8, g7, g8, p7_0, p7_1, p7_2, p7_3, p7_4, p8_0, p8_1, p8_2, p8_3, p8_4, ?ha, HB.out, fun h => f0 (up_set (by decide) h), fun h => f1 (up_set (by decide) h), fun h => f2 (up_set (by decide) h), fun h => f3 (up_set (by decide) h), fun h => f4 (up_set (by decide) h), fun h => f5 (up_set (by decide) h), fun h => f6 (up_set (by decide) h), fun _ => rfl, fun h => f8 (up_set (by decide) h), fun h => f9 (up_set (by decide) h), fun h => f10 (up_set (by decide) h), fun h => f11 (up_set (by decide) h), fun h => ⟨up_keep (f12 (up_set (by decide) h)).1, (f12 (up_set (by decide) h)).2⟩, fun h => ⟨up_keep (f13 (up_set (by decide) h)).1, (f13 (up_set (by decide) h)).2⟩, fun h1 h2 => d0_1 (up_set (by decide) h1) (up_set (by decide) h2)⟩
              case ha => simp only [Act.put, List.setIfInBounds_toArray, List.set_cons_zero, List.set_cons_succ]
            · rintro L a wv ⟨u72, u73, u74, u75, u76, u77, u78, u79, u80, u81, u7, u8, g7, g8, p7_0, p7_1, p7_2, p7_3, p7_4, p8_0, p8_1, p8_2, p8_3, p8_4, rfl, hB, f0, f1, f2, f3, f4, f5, f6, f7, f8, f9, f10, f11, f12, f13, d0_1⟩ hnu hd K' hK
              simp [Region.binds] at hd
              have e78 := f6 (by simp [hd])
              subst e78
              have e79 := f7 (by simp [hd])
              subst e79
              have Hf0 := Lib.hid f0
              clear f0
              have Hf1 := Lib.hid f1
              clear f1
              have Hf2 := Lib.hid f2
              clear f2
              have Hf3 := Lib.hid f3
              clear f3
              have Hf4 := Lib.hid f4
              clear f4
              have Hf5 := Lib.hid f5
              clear f5
              have Hf6 := Lib.hid f6
              clear f6
              have Hf7 := Lib.hid f7
              clear f7
              clear f8
              have Hf9 := Lib.hid f9
              clear f9
              have Hf10 := Lib.hid f10
              clear f10
              have Hf11 := Lib.hid f11
              clear f11
              have Hf12 := Lib.hid f12
              clear f12
              have Hf13 := Lib.hid f13
              clear f13
              have Hd0_1 := Lib.hid d0_1
              clear d0_1
              have HB := Lib.hid hB
              clear hB
              try clear hd
              simp only [Act.put, List.setIfInBounds_toArray, List.set_cons_zero, List.set_cons_succ]
              go_simp
              have f0 := Hf0.out
              have f1 := Hf1.out
              have f2 := Hf2.out
              have f3 := Hf3.out
              have f4 := Hf4.out
              have f5 := Hf5.out
              have f6 := Hf6.out
              have f7 := Hf7.out
              have f9 := Hf9.out
              have f10 := Hf10.out
              have f11 := Hf11.out
              have f12 := Hf12.out
              have f13 := Hf13.out
              have d0_1 := Hd0_1.out
              refine hK.out _ _ ⟨u72, u73, u74, u75, u76, u77, (.slice (some ⟨b', off', none⟩) p.blocks.length dc), (.int .i64 (k : Int)), (.pointer (some ⟨b', off' + k * 5, none⟩)), u81, u7, u8, g7, g8, p7_0, p7_1, p7_2, p7_3, p7_4, p8_0, p8_1, p8_2, p8_3, p8_4, ?ha, HB.out, fun h => f0 (up_set (by decide) h), fun h => f1 (up_set (by decide) h), fun h => f2 (up_set (by decide) h), fun h => f3 (up_set (by decide) h), fun h => f4 (up_set (by decide) h), fun h => f5 (up_set (by decide) h), fun _ => rfl, fun _ => rfl, fun _ => rfl, fun h => f9 (up_set (by decide) h), fun h => f10 (up_set (by decide) h), fun h => f11 (up_set (by decide) h), fun h => ⟨up_keep (f12 (up_set (by decide) h)).1, (f12 (up_set (by decide) h)).2⟩, fun h => ⟨up_keep (f13 (up_set (by decide) h)).1, (f13 (up_set (by decide) h)).2⟩, fun h1 h2 => d0_1 (up_set (by decide) h1) (up_set (by decide) h2)⟩
              case ha => simp only [Act.put, List.setIfInBounds_toArray, List.set_cons_zero, List.set_cons_succ]
            · rintro L a wv ⟨u72, u73, u74, u75, u76, u77, u78, u79, u80, u81, u7, u8, g7, g8, p7_0, p7_1, p7_2, p7_3, p7_4, p8_0, p8_1, p8_2, p8_3, p8_4, rfl, hB, f0, f1, f2, f3, f4, f5, f6, f7, f8, f9, f10, f11, f12, f13, d0_1⟩ hnu hd K' hK
              simp [Region.binds] at hd
              have e80 := f8 (by simp [hd])
              subst e80
              have Hf0 := Lib.hid f0
              clear f0
              have Hf1 := Lib.hid f1
              clear f1
              have Hf2 := Lib.hid f2
              clear f2
              have Hf3 := Lib.hid f3
              clear f3
              have Hf4 := Lib.hid f4
              clear f4
              have Hf5 := Lib.hid f5
              clear f5
              have Hf6 := Lib.hid f6
              clear f6
              have Hf7 := Lib.hid f7
              clear f7
              have Hf8 := Lib.hid f8
              clear f8
              clear f9
              have Hf10 := Lib.hid f10
              clear f10
              have Hf11 := Lib.hid f11
              clear f11
              have Hf12 := Lib.hid f12
              clear f12
              have Hf13 := Lib.hid f13
              clear f13
              have Hd0_1 := Lib.hid d0_1
              clear d0_1
              have HB := Lib.hid hB
              clear hB
              try clear hd
              simp only [Act.put, List.setIfInBounds_toArray, List.set_cons_zero, List.set_cons_succ]
              have k0 := (HB.out.cell (p := ⟨b', off' + k * 5, none⟩) (LTC)).trans y0
              have k1 := (HB.out.cell (p := ⟨b', off' + k * 5 + 1, none⟩) (LTC)).trans y1
              have k2 := (HB.out.cell (p := ⟨b', off' + k * 5 + 2, none⟩) (LTC)).trans y2
              have k3 := (HB.out.cell (p := ⟨b', off' + k * 5 + 3, none⟩) (LTC)).trans y3
              have k4 := (HB.out.cell (p := ⟨b', off' + k * 5 + 4, none⟩) (LTC)).trans y4
              go_simp
              have f0 := Hf0.out
              have f1 := Hf1.out
              have f2 := Hf2.out
              have f3 := Hf3.out
              have f4 := Hf4.out
              have f5 := Hf5.out
              have f6 := Hf6.out
              have f7 := Hf7.out
              have f8 := Hf8.out
              have f10 := Hf10.out
              have f11 := Hf11.out
              have f12 := Hf12.out
              have f13 := Hf13.out
              have d0_1 := Hd0_1.out
              refine hK.out _ _ ⟨u72, u73, u74, u75, u76, u77, u78, u79, (.pointer (some ⟨b', off' + k * 5, none⟩)), (.agg #[.slice PA ops.length pc, .int .i64 tk, .int .i64 ta, .int .i64 ty, .int .i64 tn]), u7, u8, g7, g8, p7_0, p7_1, p7_2, p7_3, p7_4, p8_0, p8_1, p8_2, p8_3, p8_4, ?ha, HB.out, fun h => f0 (up_set (by decide) h), fun h => f1 (up_set (by decide) h), fun h => f2 (up_set (by decide) h), fun h => f3 (up_set (by decide) h), fun h => f4 (up_set (by decide) h), fun h => f5 (up_set (by decide) h), fun h => f6 (up_set (by decide) h), fun h => f7 (up_set (by decide) h), fun _ => rfl, fun _ => rfl, fun h => f10 (up_set (by decide) h), fun h => f11 (up_set (by decide) h), fun h => ⟨up_keep (f12 (up_set (by decide) h)).1, (f12 (up_set (by decide) h)).2⟩, fun h => ⟨up_keep (f13 (up_set (by decide) h)).1, (f13 (up_set (by decide) h)).2⟩, fun h1 h2 => d0_1 (up_set (by decide) h1) (up_set (by decide) h2)⟩
              case ha => simp only [Act.put, List.setIfInBounds_toArray, List.set_cons_zero, List.set_cons_succ]
            · rintro L a wv ⟨u72, u73, u74, u75, u76, u77, u78, u79, u80, u81, u7, u8, g7, g8, p7_0, p7_1, p7_2, p7_3, p7_4, p8_0, p8_1, p8_2, p8_3, p8_4, rfl, hB, f0, f1, f2, f3, f4, f5, f6, f7, f8, f9, f10, f11, f12, f13, d0_1⟩ hnu hd K' hK
              clear hd
              have Hf0 := Lib.hid f0
              clear f0
              have Hf1 := Lib.hid f1
              clear f1
              have Hf2 := Lib.hid f2
              clear f2
              have Hf3 := Lib.hid f3
              clear f3
              have Hf4 := Lib.hid f4
              clear f4
              have Hf5 := Lib.hid f5
              clear f5
              have Hf6 := Lib.hid f6
              clear f6
              have Hf7 := Lib.hid f7
              clear f7
              have Hf8 := Lib.hid f8
              clear f8
              have Hf9 := Lib.hid f9
              clear f9
              clear f10
              have Hf11 := Lib.hid f11
              clear f11
              have Hf12 := Lib.hid f12
              clear f12
              have Hf13 := Lib.hid f13
              clear f13
              have Hd0_1 := Lib.hid d0_1
              clear d0_1
              have HB := Lib.hid hB
              clear hB
              try clear hd
              simp only [Act.put, List.setIfInBounds_toArray, List.set_cons_zero, List.set_cons_succ]
              go_simp
              have f0 := Hf0.out
              have f1 := Hf1.out
              have f2 := Hf2.out
              have f3 := Hf3.out
              have f4 := Hf4.out
              have f5 := Hf5.out
              have f6 := Hf6.out
              have f7 := Hf7.out
              have f8 := Hf8.out
              have f9 := Hf9.out
              have f11 := Hf11.out
              have f12 := Hf12.out
              have f13 := Hf13.out
              have d0_1 := Hd0_1.out
              refine hK.out _ _ ⟨u72, u73, u74, u75, u76, u77, u78, u79, u80, u81, (.pointer (some ⟨wv.heap.size, 0, none⟩)), u8, wv.heap.size, g8, (.slice none 0 0), (.int .i64 0), (.int .i64 0), (.int .i64 0), (.int .i64 0), p8_0, p8_1, p8_2, p8_3, p8_4, ?ha, bal HB.out (.cells #[.slice none 0 0, .int .i64 0, .int .i64 0, .int .i64 0, .int .i64 0] 40), fun h => f0 (up_set (by decide) h), fun h => f1 (up_set (by decide) h), fun h => f2 (up_set (by decide) h), fun h => f3 (up_set (by decide) h), fun h => f4 (up_set (by decide) h), fun h => f5 (up_set (by decide) h), fun h => f6 (up_set (by decide) h), fun h => f7 (up_set (by decide) h), fun h => f8 (up_set (by decide) h), fun h => f9 (up_set (by decide) h), fun _ => ⟨rfl, HB.out.size, heap_alloc_new wv (.cells #[.slice none 0 0, .int .i64 0, .int .i64 0, .int .i64 0, .int .i64 0] 40)⟩, fun h => let ⟨x1, x2, x3⟩ := f11 (up_set (by decide) h); ⟨x1, x2, (Below.heap_alloc wv (.cells #[.slice none 0 0, .int .i64 0, .int .i64 0, .int .i64 0, .int .i64 0] 40) _ (lt_of_blk x3)).trans x3⟩, fun h => absurd (f12 (up_set (by decide) h)).1 hnu, fun h => ⟨up_keep (f13 (up_set (by decide) h)).1, (f13 (up_set (by decide) h)).2⟩, fun _ h => by have := lt_of_blk (f11 (up_set (by decide) h)).2.2; omega⟩
              case ha => simp only [Act.put, List.setIfInBounds_toArray, List.set_cons_zero, List.set_cons_succ]
            · rintro L a wv ⟨u72, u73, u74, u75, u76, u77, u78, u79, u80, u81, u7, u8, g7, g8, p7_0, p7_1, p7_2, p7_3, p7_4, p8_0, p8_1, p8_2, p8_3, p8_4, rfl, hB, f0, f1, f2, f3, f4, f5, f6, f7, f8, f9, f10, f11, f12, f13, d0_1⟩ hnu hd K' hK
              clear hd
              have Hf0 := Lib.hid f0
              clear f0
              have Hf1 := Lib.hid f1
              clear f1
              have Hf2 := Lib.hid f2
              clear f2
              have Hf3 := Lib.hid f3
              clear f3
              have Hf4 := Lib.hid f4
              clear f4
              have Hf5 := Lib.hid f5
              clear f5
              have Hf6 := Lib.hid f6
              clear f6
              have Hf7 := Lib.hid f7
              clear f7
              have Hf8 := Lib.hid f8
              clear f8
              have Hf9 := Lib.hid f9
              clear f9
              have Hf10 := Lib.hid f10
              clear f10
              clear f11
              have Hf12 := Lib.hid f12
              clear f12
              have Hf13 := Lib.hid f13
              clear f13
              have Hd0_1 := Lib.hid d0_1
              clear d0_1
              have HB := Lib.hid hB
              clear hB
              try clear hd
              simp only [Act.put, List.setIfInBounds_toArray, List.set_cons_zero, List.set_cons_succ]
              go_simp
              have f0 := Hf0.out
              have f1 := Hf1.out
              have f2 := Hf2.out
              have f3 := Hf3.out
              have f4 := Hf4.out
              have f5 := Hf5.out
              have f6 := Hf6.out
              have f7 := Hf7.out
              have f8 := Hf8.out
              have f9 := Hf9.out
              have f10 := Hf10.out
              have f12 := Hf12.out
              have f13 := Hf13.out
              have d0_1 := Hd0_1.out
              refine hK.out _ _ ⟨u72, u73, u74, u75, u76, u77, u78, u79, u80, u81, u7, (.pointer (some ⟨wv.heap.size, 0, none⟩)), g7, wv.heap.size, p7_0, p7_1, p7_2, p7_3, p7_4, (.slice none 0 0), (.int .i64 0), (.int .i64 0), (.int .i64 0), (.int .i64 0), ?ha, bal HB.out (.cells #[.slice none 0 0, .int .i64 0, .int .i64 0, .int .i64 0, .int .i64 0] 40), fun h => f0 (up_set (by decide) h), fun h => f1 (up_set (by decide) h), fun h => f2 (up_set (by decide) h), fun h => f3 (up_set (by decide) h), fun h => f4 (up_set (by decide) h), fun h => f5 (up_set (by decide) h), fun h => f6 (up_set (by decide) h), fun h => f7 (up_set (by decide) h), fun h => f8 (up_set (by decide) h), fun h => f9 (up_set (by decide) h), fun h => let ⟨x1, x2, x3⟩ := f10 (up_set (by decide) h); ⟨x1, x2, (Below.heap_alloc wv (.cells #[.slice none 0 0, .int .i64 0, .int .i64 0, .int .i64 0, .int .i64 0] 40) _ (lt_of_blk x3)).trans x3⟩, fun _ => ⟨rfl, HB.out.size, heap_alloc_new wv (.cells #[.slice none 0 0, .int .i64 0, .int .i64 0, .int .i64 0, .int .i64 0] 40)⟩, fun h => ⟨up_keep (f12 (up_set (by decide) h)).1, (f12 (up_set (by decide) h)).2⟩, fun h => absurd (f13 (up_set (by decide) h)).1 hnu, fun h _ => by have := lt_of_blk (f10 (up_set (by decide) h)).2.2; omega⟩
              case ha => simp only [Act.put, List.setIfInBounds_toArray, List.set_cons_zero, List.set_cons_succ]
            · rintro L a wv ⟨u72, u73, u74, u75, u76, u77, u78, u79, u80, u81, u7, u8, g7, g8, p7_0, p7_1, p7_2, p7_3, p7_4, p8_0, p8_1, p8_2, p8_3, p8_4, rfl, hB, f0, f1, f2, f3, f4, f5, f6, f7, f8, f9, f10, f11, f12, f13, d0_1⟩ hnu hd K' hK
              simp [Region.binds] at hd
              have HU : Up L 10 := by simp [hd]
              have e76 := f4 (by simp [hd])
              subst e76
              have q7 := f10 (by simp [hd])
              have e7 := q7.1
              have b7 := q7.2.1
              have m7 := q7.2.2
              clear q7
              subst e7
              have Hf0 := Lib.hid f0
              clear f0
              have Hf1 := Lib.hid f1
              clear f1
              have Hf2 := Lib.hid f2
              clear f2
              have Hf3 := Lib.hid f3
              clear f3
              have Hf4 := Lib.hid f4
              clear f4
              have Hf5 := Lib.hid f5
              clear f5
              have Hf6 := Lib.hid f6
              clear f6
              have Hf7 := Lib.hid f7
              clear f7
              have Hf8 := Lib.hid f8
              clear f8
              have Hf9 := Lib.hid f9
              clear f9
              have Hf10 := Lib.hid f10
              clear f10
              have Hf11 := Lib.hid f11
              clear f11
              clear f12
              have Hf13 := Lib.hid f13
              clear f13
              have Hd0_1 := Lib.hid d0_1
              clear d0_1
              have HB := Lib.hid hB
              clear hB
              try clear hd
              have ccl0 : wv.cell? ⟨g7, 0, none⟩ = some p7_0 := (cell_of_blk m7 0).1
              have zfr0 : wv.frozen? ⟨g7, 0, none⟩ = false := (cell_of_blk m7 0).2
              have ccl1 : wv.cell? ⟨g7, 1, none⟩ = some p7_1 := (cell_of_blk m7 1).1
              have zfr1 : wv.frozen? ⟨g7, 1, none⟩ = false := (cell_of_blk m7 1).2
              have ccl2 : wv.cell? ⟨g7, 2, none⟩ = some p7_2 := (cell_of_blk m7 2).1
              have zfr2 : wv.frozen? ⟨g7, 2, none⟩ = false := (cell_of_blk m7 2).2
              have ccl3 : wv.cell? ⟨g7, 3, none⟩ = some p7_3 := (cell_of_blk m7 3).1
              have zfr3 : wv.frozen? ⟨g7, 3, none⟩ = false := (cell_of_blk m7 3).2
              have ccl4 : wv.cell? ⟨g7, 4, none⟩ = some p7_4 := (cell_of_blk m7 4).1
              have zfr4 : wv.frozen? ⟨g7, 4, none⟩ = false := (cell_of_blk m7 4).2
              have M := Lib.hid m7
              have Bq := Lib.hid b7
              clear m7 b7
              simp only [Act.put, List.setIfInBounds_toArray, List.set_cons_zero, List.set_cons_succ]
              go_simp
              have f0 := Hf0.out
              have f1 := Hf1.out
              have f2 := Hf2.out
              have f3 := Hf3.out
              have f4 := Hf4.out
              have f5 := Hf5.out
              have f6 := Hf6.out
              have f7 := Hf7.out
              have f8 := Hf8.out
              have f9 := Hf9.out
              have f10 := Hf10.out
              have f11 := Hf11.out
              have f13 := Hf13.out
              have d0_1 := Hd0_1.out
              refine hK.out _ _ ⟨u72, u73, u74, u75, (.agg #[.slice OA ops.length oc, .int .i64 tk, .int .i64 ta, .int .i64 ty, .int .i64 tn]), u77, u78, u79, u80, u81, (.pointer (some ⟨g7, 0, none⟩)), u8, g7, g8, (.slice OA ops.length oc), (.int .i64 tk), (.int .i64 ta), (.int .i64 ty), (.int .i64 tn), p8_0, p8_1, p8_2, p8_3, p8_4, ?ha, ((((((((((HB.out).setCell Bq.out _)).setCell Bq.out _)).setCell Bq.out _)).setCell Bq.out _)).setCell Bq.out _), fun h => f0 (up_set (by decide) h), fun h => f1 (up_set (by decide) h), fun h => f2 (up_set (by decide) h), fun h => f3 (up_set (by decide) h), fun _ => rfl, fun h => f5 (up_set (by decide) h), fun h => f6 (up_set (by decide) h), fun h => f7 (up_set (by decide) h), fun h => f8 (up_set (by decide) h), fun h => f9 (up_set (by decide) h), fun _ => ⟨rfl, Bq.out, ?hown⟩, fun h => ?ho11, fun _ => ⟨up_keep HU, rfl, rfl, rfl, rfl, rfl⟩, fun h => ⟨up_keep (f13 (up_set (by decide) h)).1, (f13 (up_set (by decide) h)).2⟩, fun h1 h2 => d0_1 (up_set (by decide) h1) (up_set (by decide) h2)⟩
              case ha => simp only [Act.put, List.setIfInBounds_toArray, List.set_cons_zero, List.set_cons_succ]
              case hown => exact (blk_set (blk_set (blk_set (blk_set (blk_set M.out 0 (.slice OA ops.length oc)) 1 (.int .i64 tk)) 2 (.int .i64 ta)) 3 (.int .i64 ty)) 4 (.int .i64 tn))
              case ho11 =>
                have x1 := (f11 (up_set (by decide) h)).1
                have x2 := (f11 (up_set (by decide) h)).2.1
                have x3 := (f11 (up_set (by decide) h)).2.2
                exact ⟨x1, x2, (Below.heap_setCell _ _ _ _ ((d0_1 HU (up_set (by decide) h)).symm)).trans ((Below.heap_setCell _ _ _ _ ((d0_1 HU (up_set (by decide) h)).symm)).trans ((Below.heap_setCell _ _ _ _ ((d0_1 HU (up_set (by decide) h)).symm)).trans ((Below.heap_setCell _ _ _ _ ((d0_1 HU (up_set (by decide) h)).symm)).trans ((Below.heap_setCell _ _ _ _ ((d0_1 HU (up_set (by decide) h)).symm)).trans (x3)))))⟩
            · rintro L a wv ⟨u72, u73, u74, u75, u76, u77, u78, u79, u80, u81, u7, u8, g7, g8, p7_0, p7_1, p7_2, p7_3, p7_4, p8_0, p8_1, p8_2, p8_3, p8_4, rfl, hB, f0, f1, f2, f3, f4, f5, f6, f7, f8, f9, f10, f11, f12, f13, d0_1⟩ hnu hd K' hK
              simp [Region.binds] at hd
              have HU : Up L 11 := by simp [hd]
              have e81 := f9 (by simp [hd])
              subst e81
              have q8 := f11 (by simp [hd])
              have e8 := q8.1
              have b8 := q8.2.1
              have m8 := q8.2.2
              clear q8
              subst e8
              have Hf0 := Lib.hid f0
              clear f0
              have Hf1 := Lib.hid f1
              clear f1
              have Hf2 := Lib.hid f2
              clear f2
              have Hf3 := Lib.hid f3
              clear f3
              have Hf4 := Lib.hid f4
              clear f4
              have Hf5 := Lib.hid f5
              clear f5
              have Hf6 := Lib.hid f6
              clear f6
              have Hf7 := Lib.hid f7
              clear f7
              have Hf8 := Lib.hid f8
              clear f8
              have Hf9 := Lib.hid f9
              clear f9
              have Hf10 := Lib.hid f10
              clear f10
              have Hf11 := Lib.hid f11
              clear f11
              have Hf12 := Lib.hid f12
              clear f12
              clear f13
              have Hd0_1 := Lib.hid d0_1
              clear d0_1
              have HB := Lib.hid hB
              clear hB
              try clear hd
              have ccl0 : wv.cell? ⟨g8, 0, none⟩ = some p8_0 := (cell_of_blk m8 0).1
              have zfr0 : wv.frozen? ⟨g8, 0, none⟩ = false := (cell_of_blk m8 0).2
              have ccl1 : wv.cell? ⟨g8, 1, none⟩ = some p8_1 := (cell_of_blk m8 1).1
              have zfr1 : wv.frozen? ⟨g8, 1, none⟩ = false := (cell_of_blk m8 1).2
              have ccl2 : wv.cell? ⟨g8, 2, none⟩ = some p8_2 := (cell_of_blk m8 2).1
              have zfr2 : wv.frozen? ⟨g8, 2, none⟩ = false := (cell_of_blk m8 2).2
              have ccl3 : wv.cell? ⟨g8, 3, none⟩ = some p8_3 := (cell_of_blk m8 3).1
              have zfr3 : wv.frozen? ⟨g8, 3, none⟩ = false := (cell_of_blk m8 3).2
              have ccl4 : wv.cell? ⟨g8, 4, none⟩ = some p8_4 := (cell_of_blk m8 4).1
              have zfr4 : wv.frozen? ⟨g8, 4, none⟩ = false := (cell_of_blk m8 4).2
              have M := Lib.hid m8
              have Bq := Lib.hid b8
              clear m8 b8
              simp only [Act.put, List.setIfInBounds_toArray, List.set_cons_zero, List.set_cons_succ]
              go_simp
              have f0 := Hf0.out
              have f1 := Hf1.out
              have f2 := Hf2.out
              have f3 := Hf3.out
              have f4 := Hf4.out
              have f5 := Hf5.out
              have f6 := Hf6.out
              have f7 := Hf7.out
              have f8 := Hf8.out
              have f9 := Hf9.out
              have f10 := Hf10.out
              have f11 := Hf11.out
              have f12 := Hf12.out
              have d0_1 := Hd0_1.out
              refine hK.out _ _ ⟨u72, u73, u74, u75, u76, u77, u78, u79, u80, (.agg #[.slice PA ops.length pc, .int .i64 tk, .int .i64 ta, .int .i64 ty, .int .i64 tn]), u7, (.pointer (some ⟨g8, 0, none⟩)), g7, g8, p7_0, p7_1, p7_2, p7_3, p7_4, (.slice PA ops.length pc), (.int .i64 tk), (.int .i64 ta), (.int .i64 ty), (.int .i64 tn), ?ha, ((((((((((HB.out).setCell Bq.out _)).setCell Bq.out _)).setCell Bq.out _)).setCell Bq.out _)).setCell Bq.out _), fun h => f0 (up_set (by decide) h), fun h => f1 (up_set (by decide) h), fun h => f2 (up_set (by decide) h), fun h => f3 (up_set (by decide) h), fun h => f4 (up_set (by decide) h), fun h => f5 (up_set (by decide) h), fun h => f6 (up_set (by decide) h), fun h => f7 (up_set (by decide) h), fun h => f8 (up_set (by decide) h), fun _ => rfl, fun h => ?ho10, fun _ => ⟨rfl, Bq.out, ?hown⟩, fun h => ⟨up_keep (f12 (up_set (by decide) h)).1, (f12 (up_set (by decide) h)).2⟩, fun _ => ⟨up_keep HU, rfl, rfl, rfl, rfl, rfl⟩, fun h1 h2 => d0_1 (up_set (by decide) h1) (up_set (by decide) h2)⟩
              case ha => simp only [Act.put, List.setIfInBounds_toArray, List.set_cons_zero, List.set_cons_succ]
              case hown => exact (blk_set (blk_set (blk_set (blk_set (blk_set M.out 0 (.slice PA ops.length pc)) 1 (.int .i64 tk)) 2 (.int .i64 ta)) 3 (.int .i64 ty)) 4 (.int .i64 tn))
              case ho10 =>
                have x1 := (f10 (up_set (by decide) h)).1
                have x2 := (f10 (up_set (by decide) h)).2.1
                have x3 := (f10 (up_set (by decide) h)).2.2
                exact ⟨x1, x2, (Below.heap_setCell _ _ _ _ (d0_1 (up_set (by decide) h) HU)).trans ((Below.heap_setCell _ _ _ _ (d0_1 (up_set (by decide) h) HU)).trans ((Below.heap_setCell _ _ _ _ (d0_1 (up_set (by decide) h) HU)).trans ((Below.heap_setCell _ _ _ _ (d0_1 (up_set (by decide) h) HU)).trans ((Below.heap_setCell _ _ _ _ (d0_1 (up_set (by decide) h) HU)).trans (x3)))))⟩
          case hend =>
            rintro L a wv ⟨u72, u73, u74, u75, u76, u77, u78, u79, u80, u81, u7, u8, g7, g8, p7_0, p7_1, p7_2, p7_3, p7_4, p8_0, p8_1, p8_2, p8_3, p8_4, rfl, hB, f0, f1, f2, f3, f4, f5, f6, f7, f8, f9, f10, f11, f12, f13, d0_1⟩ hall
            have e72 := f0 (hall 0 (by decide))
            subst e72
            have e73 := f1 (hall 1 (by decide))
            subst e73
            have e74 := f2 (hall 2 (by decide))
            subst e74
            have e75 := f3 (hall 3 (by decide))
            subst e75
            have e76 := f4 (hall 4 (by decide))
            subst e76
            have e77 := f5 (hall 5 (by decide))
            subst e77
            have e78 := f6 (hall 6 (by decide))
            subst e78
            have e79 := f7 (hall 7 (by decide))
            subst e79
            have e80 := f8 (hall 8 (by decide))
            subst e80
            have e81 := f9 (hall 9 (by decide))
            subst e81
            have e7 := (f10 (hall 10 (by decide))).1
            have m7 := (f10 (hall 10 (by decide))).2.2
            subst e7
            have e8 := (f11 (hall 11 (by decide))).1
            have m8 := (f11 (hall 11 (by decide))).2.2
            subst e8
            have s12 := (f12 (hall 12 (by decide))).2
            obtain ⟨rfl, rfl, rfl, rfl, rfl⟩ := s12
            have s13 := (f13 (hall 13 (by decide))).2
            obtain ⟨rfl, rfl, rfl, rfl, rfl⟩ := s13
            simp only [Act.put, List.setIfInBounds_toArray, List.set_cons_zero, List.set_cons_succ]
            have hg7 := (f10 (hall 10 (by decide))).2.1
            have hg8 := (f11 (hall 11 (by decide))).2.1
            clear f0 f1 f2 f3 f4 f5 f6 f7 f8 f9 f10 f11 f12 f13 d0_1 hall hBrf
            obtain ⟨z0, z1, z2, z3, z4, _, _⟩ := blk_cells_at m7
            obtain ⟨v0, v1, v2, v3, v4, _, _⟩ := blk_cells_at m8
            have HM7 := Lib.hid m7
            have HM8 := Lib.hid m8
            have HB4 := Lib.hid hB
            clear m7 m8 hB c0 c1 c2 c3 c4 d0 d1 d2 d3 d4 x0 x1 x2 x3 x4 y0 y1 y2 y3 y4
            go_wp2_with fail
            clear z0 z1 z2 z3 z4 v0 v1 v2 v3 v4
            obtain ⟨wo, rfl⟩ : ∃ wo : World, wo = wr := ⟨_, rfl⟩
            go_loopw [9] (fun vi wr => ∃ (j : Nat), j ≤ ops.length ∧ vi = .int .i64 j ∧ Below wv.heap.size wv wr) (fun vi _ => ops.length - (intOf vi).toNat)
            case atStart => exact ⟨0, Nat.zero_le _, rfl, Below.refl _ _⟩
            case round =>
              obtain ⟨j, hj, rfl, hBJ⟩ := hrel
              have HBJ := Lib.hid hBJ
              obtain ⟨z0, _, _, _, _, _, _⟩ := blk_cells_at ((hBJ.block _ (lt_of_blk HM7.out)).trans HM7.out)
              obtain ⟨v0, _, _, _, _, _, _⟩ := blk_cells_at ((hBJ.block _ (lt_of_blk HM8.out)).trans HM8.out)
              have HBE := Lib.hid (HBV.out.trans ((bch HB4.out hBJ).mono HBV.out.size))
              have HBO := Lib.hid (bch HB4.out hBJ)
              have hws : w.heap.size ≤ wo.heap.size := by have := HBV.out.size; have := HZ1.out; omega
              clear hBJ
              by_cases hjl : j < ops.length
              · obtain ⟨ob, ooff, rfl, hob, s0, s1, s2, s3, s4, s5⟩ := op_at (HOP.out.below HBO.out hws) j hjl
                obtain ⟨ob', ooff', rfl, hob', t0, t1, t2, t3, t4, t5⟩ := op_at (HPP.out.below HBO.out hws) j hjl
                generalize ops.getD j opNone = o at *
                have j0 : (0 : Int) ≤ (j : Int) := by omega
                have j1 : (j : Int) < (ops.length : Int) := by omega
                go_wp2_with fail
                go_quiet (fail)
                go_wp2_with fail
                go_roundw
                case rel => exact ⟨j + 1, by omega, by go_num, bdrawn HBJ.out _⟩
                case measure => simp [intOf]; omega
              · obtain rfl : j = ops.length := by omega
                go_wp2_with fail
                go_roundw
                case rel => exact ⟨k + 1, by omega, by go_num, HBE.out⟩
                case measure => simp [intOf]; omega
        · obtain rfl : k = p.blocks.length := by omega
          go_wp2_with fail
          go_ret
          exact ⟨rfl, bch HB1.out (HBV.out)⟩
end Go.Proofs.Ythkobddggoojlaa
