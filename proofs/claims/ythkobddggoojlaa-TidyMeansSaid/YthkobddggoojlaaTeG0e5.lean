/- Parts of a proof, joined. No condition but those that each theorem names. -/
import Derived.WalkKit
import Derived.OpenShut
import Derived.Below
import Derived.Lib.Hide
import Derived.Laws.OwnMore
import Derived.Deep.QuietTactic
import Derived.Deep.AppendLies
import Derived.ProofKit
import Derived.SizedLaws
import Derived.Test.YthkobddggoojlaaProg
import Derived.Handy
import Derived.Deep.RegionHeld3
import Derived.BigQuiet
import Derived.Test.YthkobddggoojlaaTeG0e0
import Derived.Test.YthkobddggoojlaaTeG0e1
import Derived.Test.YthkobddggoojlaaTeG0e2
import Derived.Test.YthkobddggoojlaaTeG0e4
import Derived.Test.YthkobddggoojlaaTeG0e11
namespace Go.Proofs.Ythkobddggoojlaa
open Go.RowKit
theorem bdrawnN {B : Nat} {a w : World} (h : Below B a w) (n : Nat) : Below B a (w.drewN n) := ⟨h.os, h.tape, h.output, h.size, h.block⟩
def mx2 (a b : Int) : Int := if b > a then b else a
def mn2 (a b : Int) : Int := if b < a then b else a
theorem run_mx2 (P : Program) (ts : Array TypeId) (t : TypeId) (a b : Int) (W : World) : (Builtin.max_ ts t #[.int .i64 a, .int .i64 b]).run P W = .ok (.int .i64 (mx2 a b)) W := by
  simp [Builtin.max_, Builtin.max2]; rfl
theorem run_mn2 (P : Program) (ts : Array TypeId) (t : TypeId) (a b : Int) (W : World) : (Builtin.min_ ts t #[.int .i64 a, .int .i64 b]).run P W = .ok (.int .i64 (mn2 a b)) W := by
  simp [Builtin.min_, Builtin.min2]; rfl
theorem mx2_max (a b : Int) : mx2 a b = max a b := by unfold mx2; omega
theorem mn2_min (a b : Int) : mn2 a b = min a b := by unfold mn2; omega
set_option maxHeartbeats 2000000 in
set_option maxRecDepth 100000 in
theorem ir_limited (p : Ir) (av bv : Value) (hf : p.fine) (w : World) (hI : IrRep w w.heap.size p av bv) :
    Calls Try.prog 23 #[irVal p av bv] w fun e w' => e = .returned (.bool (!decide (greatP p))) ∧ Below w.heap.size w w' := by
  obtain ⟨hRA, hRB⟩ := hI
  obtain ⟨AA, ac, rfl, hac⟩ := hRA.form
  obtain ⟨BA, bc, rfl, hbc⟩ := hRB.form
  obtain ⟨hf1, hf2, hf3, hf4, hf5, hf6, hf7⟩ := hf
  unfold IntR at hf1 hf3
  have HRA := Lib.hid hRA
  have HRB := Lib.hid hRB
  have HF7 := Lib.hid hf7
  have HSH := Lib.hid (fun x W => ir_shaped x W)
  generalize hA : (!decide (greatP p)) = R at *
  have hRt : ¬ greatP p → R = true := fun h => by rw [← hA, decide_eq_false h]; rfl
  have hRf : greatP p → R = false := fun h => by rw [← hA, decide_eq_true h]; rfl
  have HRt := Lib.hid hRt
  have HRf := Lib.hid hRf
  unfold irVal
  clear hRA hRB hac hbc hf2 hf6 hf7 hRt hRf hA
  by_cases h1 : p.temps ≤ 1048576
  · by_cases h2 : (p.arrays.length : Int) ≤ 1048576
    · by_cases h3 : (p.blocks.length : Int) ≤ 1048576
      · go_enter Try.func23, Try.ntmps23
        have hs1 : (w.alloc (.cells #[.int .i64 p.temps, .slice AA p.arrays.length ac, .slice BA p.blocks.length bc, .int .i64 p.inp, .int .i64 p.out] 25)).heap.size = w.heap.size + 1 := by simp
        have hx1 := heap_alloc_new w (.cells #[.int .i64 p.temps, .slice AA p.arrays.length ac, .slice BA p.blocks.length bc, .int .i64 p.inp, .int .i64 p.out] 25)
        have hb1 := bnew w (.cells #[.int .i64 p.temps, .slice AA p.arrays.length ac, .slice BA p.blocks.length bc, .int .i64 p.inp, .int .i64 p.out] 25)
        have hmx := run_mx2 Try.prog #[3, 3] 3 p.out 0
        have hmn := run_mn2 Try.prog #[3, 3] 3 (mx2 p.out 0) 65537
        have HM0 : Hid (mn2 (mx2 p.out 0) 65537 = min (max p.out 0) 65537) := Lib.hid (by rw [mn2_min, mx2_max])
        go_wp2_with fail
        generalize w.alloc (.cells #[.int .i64 p.temps, .slice AA p.arrays.length ac, .slice BA p.blocks.length bc, .int .i64 p.inp, .int .i64 p.out] 25) = w1 at *
        have HX1 := Lib.hid hx1
        have HB1 := Lib.hid hb1
        have c1 : w1.cell? ⟨w.heap.size, 1, none⟩ = some (.slice AA p.arrays.length ac) := (cell_of_blk hx1 1).1
        have c2 : w1.cell? ⟨w.heap.size, 2, none⟩ = some (.slice BA p.blocks.length bc) := (cell_of_blk hx1 2).1
        have c4 : w1.cell? ⟨w.heap.size, 4, none⟩ = some (.int .i64 p.out) := (cell_of_blk hx1 4).1
        clear hx1 hb1
        go_quiet (fail)
        go_wp2_with fail
        have HB1N := Lib.hid (bdrawnN (Below.refl w1.heap.size w1) nq)
        generalize w1.drewN nq = wb at *
        have hm1 : mn2 (mx2 p.out 0) 65537 ≤ 65537 := by have := HM0.out; omega
        have hm2 : 0 ≤ mn2 (mx2 p.out 0) 65537 := by have := HM0.out; omega
        generalize mn2 (mx2 p.out 0) 65537 = m0 at *
        clear hmx hmn c1 c2 c4
        go_loopw [3, 31] (fun v j wr => ∃ k : Nat, k ≤ p.blocks.length ∧ j = .int .i64 k ∧ v = .int .i64 (opsSum (p.blocks.take k) : Nat) ∧ opsSum (p.blocks.take k) ≤ 1048576 ∧ Below w1.heap.size w1 wr) (fun _ j _ => p.blocks.length - (intOf j).toNat)
        case atStart => exact ⟨0, by omega, rfl, rfl, by rw [List.take_zero]; decide, HB1N.out⟩
        case round =>
          obtain ⟨k, hk, rfl, rfl, hS, hK⟩ := hrel
          by_cases hlt : k < p.blocks.length
          · obtain ⟨b, off, rfl, hb0, OA, oc, _, _, x0, x1, x2, x3, x4⟩ := blk_at (HRB.out.below (bch HB1.out hK) (Nat.le_refl _)) k hlt
            have hstep := opsSum_step p.blocks k hlt
            have hfine := (HF7.out _ (getD_memI p.blocks k blkNone hlt)).1
            generalize p.blocks.getD k blkNone = bk at *
            obtain ⟨ops, tk, ta, ty, tn⟩ := bk
            simp only at x0 x1 x2 x3 x4 hstep hfine
            generalize ops.length = L at *
            have HST := Lib.hid hstep
            have HGR := Lib.hid (great_ops p (k + 1))
            rw [hstep] at HGR
            generalize opsSum (p.blocks.take k) = S at *
            have HK := Lib.hid hK
            have k0 : (0 : Int) ≤ (k : Int) := by omega
            have k1 : (k : Int) < (p.blocks.length : Int) := by omega
            clear hstep hK
            by_cases hL : (L : Int) ≤ 1048576 - (S : Int)
            · go_wp2_with fail
              go_roundw
              case rel => exact ⟨k + 1, by omega, by go_num, by rw [HST.out]; go_num, by rw [HST.out]; omega, bal HK.out _⟩
              case measure => simp [intOf]; omega
            · have hR := HRf.out (HGR.out (by omega))
              subst hR
              go_wp2_with fail
              go_ret
              exact ⟨rfl, bal (bch HB1.out HK.out) _⟩
          · obtain rfl : k = p.blocks.length := by omega
            rw [List.take_length] at hS ⊢
            have hx := (hK.block _ (lt_of_blk HX1.out)).trans HX1.out
            have c1 : wr.cell? ⟨w.heap.size, 1, none⟩ = some (.slice AA p.arrays.length ac) := (cell_of_blk hx 1).1
            have HK := Lib.hid hK
            clear hK hx
            go_wp2_with fail
            go_loopw [4, 50] (fun v j wq => ∃ q : Nat, q ≤ p.arrays.length ∧ j = .int .i64 q ∧ v = .int .i64 (m0 + railSum (p.arrays.take q)) ∧ (q = 0 ∨ m0 + railSum (p.arrays.take q) ≤ 65536) ∧ Below w1.heap.size w1 wq) (fun _ j _ => p.arrays.length - (intOf j).toNat)
            case atStart => exact ⟨0, by omega, rfl, by rw [List.take_zero]; show _ = Value.int .i64 (m0 + 0); rw [Int.add_zero], .inl rfl, HK.out⟩
            case round =>
              obtain ⟨q, hq, rfl, rfl, hS2, hK2⟩ := hrel
              by_cases hlt2 : q < p.arrays.length
              · obtain ⟨b, off, rfl, hb0, x0, x1, x2, x3⟩ := arr_at (HRA.out.below (bch HB1.out hK2) (Nat.le_refl _)) q hlt2
                have hstep := railSum_step p.arrays q hlt2
                have hbr := railBytes_range (p.arrays.getD q arrNone)
                have hS0 := railSum_nonneg (p.arrays.take q)
                have HGR := Lib.hid (great_rail p (q + 1))
                rw [hstep] at HGR
                generalize p.arrays.getD q arrNone = ar at *
                have HS1 := Lib.hid (HSH.out ar)
                obtain ⟨e, l, ak, o⟩ := ar
                simp only at x0 x1 x2 x3 HS1
                have hS5 : m0 + railSum (p.arrays.take q) ≤ 65537 := by
                  rcases hS2 with rfl | h
                  · rw [List.take_zero]; show m0 + 0 ≤ 65537; omega
                  · omega
                generalize railSum (p.arrays.take q) = S at *
                have q0 : (0 : Int) ≤ (q : Int) := by omega
                have q1 : (q : Int) < (p.arrays.length : Int) := by omega
                have HK := Lib.hid hK2
                have HST := Lib.hid hstep
                clear hS2 hK2 hstep hbr
                by_cases hs : shapedP ⟨e, l, ak, o⟩
                · rw [decide_eq_true hs] at HS1
                  by_cases hk0 : ak = 0
                  · subst hk0
                    have hN : wrap64 (e * l) = e * l ∧ 1 ≤ e * l ∧ e * l ≤ 65536 := by
                      obtain ⟨h2, h3, h4⟩ := hs
                      simp only at h2 h3 h4
                      rcases h2 with h2 | h2 <;> rw [h2] <;> unfold wrap64 <;> omega
                    obtain ⟨e1, hN1, hN2⟩ := hN
                    have HZ : Hid (railBytes ⟨e, l, 0, o⟩ = up4 (e * l)) := Lib.hid (by unfold railBytes room; rw [if_pos rfl, if_pos hs])
                    have hu : 0 ≤ up4 (e * l) ∧ up4 (e * l) ≤ 65540 := by unfold up4; omega
                    have HUP := Lib.hid (fun W => ir_up (e * l) (by omega) (by omega) W)
                    generalize hn : e * l = n at *
                    have e2 : wrap64 (e * l) = n := by rw [hn]; exact e1
                    generalize up4 n = u at *
                    clear hn
                    go_wp2_with fail
                    refine (HS1.out _).mono ?_
                    rintro e3 w3 ⟨rfl, hb3⟩
                    have hx3 := (hb3.block wr.heap.size (by simp)).trans (heap_alloc_new wr _)
                    have y0 : w3.cell? ⟨wr.heap.size, 0, none⟩ = some (.int .i64 e) := (cell_of_blk hx3 0).1
                    have y1 : w3.cell? ⟨wr.heap.size, 1, none⟩ = some (.int .i64 l) := (cell_of_blk hx3 1).1
                    have y2 : w3.cell? ⟨wr.heap.size, 2, none⟩ = some (.int .i64 0) := (cell_of_blk hx3 2).1
                    have HB3 := Lib.hid (bch (bal HK.out _) hb3)
                    clear hb3 hx3
                    go_wp2_with fail
                    refine (HUP.out _).mono ?_
                    rintro e3 w4 ⟨rfl, rfl⟩
                    by_cases hG : m0 + S + u ≤ 65536
                    · go_wp2_with fail
                      go_roundw
                      case rel => exact ⟨q + 1, by omega, by go_num, by rw [HST.out, HZ.out, Int.add_assoc], .inr (by rw [HST.out, HZ.out]; omega), HB3.out⟩
                      case measure => simp [intOf]; omega
                    · have hR := HRf.out (HGR.out (by have := HM0.out; have := HZ.out; omega))
                      subst hR
                      go_wp2_with fail
                      go_ret
                      exact ⟨rfl, bch HB1.out HB3.out⟩
                  · have qk : (ak == 0) = false := by rw [beq_eq_false_iff_ne]; exact hk0
                    have HZ : Hid (railBytes ⟨e, l, ak, o⟩ = 0) := Lib.hid (by unfold railBytes; rw [if_neg hk0])
                    go_wp2_with fail
                    refine (HS1.out _).mono ?_
                    rintro e3 w3 ⟨rfl, hb3⟩
                    have hx3 := (hb3.block wr.heap.size (by simp)).trans (heap_alloc_new wr _)
                    have y0 : w3.cell? ⟨wr.heap.size, 0, none⟩ = some (.int .i64 e) := (cell_of_blk hx3 0).1
                    have y1 : w3.cell? ⟨wr.heap.size, 1, none⟩ = some (.int .i64 l) := (cell_of_blk hx3 1).1
                    have y2 : w3.cell? ⟨wr.heap.size, 2, none⟩ = some (.int .i64 ak) := (cell_of_blk hx3 2).1
                    have HB3 := Lib.hid (bch (bal HK.out _) hb3)
                    clear hb3 hx3
                    by_cases hG : m0 + S ≤ 65536
                    · go_wp2_with fail
                      go_roundw
                      case rel => exact ⟨q + 1, by omega, by go_num, by rw [HST.out, HZ.out, Int.add_zero], .inr (by rw [HST.out, HZ.out]; omega), HB3.out⟩
                      case measure => simp [intOf]; omega
                    · have hR := HRf.out (HGR.out (by have := HM0.out; have := HZ.out; omega))
                      subst hR
                      go_wp2_with fail
                      go_ret
                      exact ⟨rfl, bch HB1.out HB3.out⟩
                · rw [decide_eq_false hs] at HS1
                  have HZ : Hid (railBytes ⟨e, l, ak, o⟩ = 0) := Lib.hid (by unfold railBytes room; rw [if_neg hs]; split <;> rfl)
                  go_wp2_with fail
                  refine (HS1.out _).mono ?_
                  rintro e3 w3 ⟨rfl, hb3⟩
                  have hx3 := (hb3.block wr.heap.size (by simp)).trans (heap_alloc_new wr _)
                  have y0 : w3.cell? ⟨wr.heap.size, 0, none⟩ = some (.int .i64 e) := (cell_of_blk hx3 0).1
                  have y1 : w3.cell? ⟨wr.heap.size, 1, none⟩ = some (.int .i64 l) := (cell_of_blk hx3 1).1
                  have y2 : w3.cell? ⟨wr.heap.size, 2, none⟩ = some (.int .i64 ak) := (cell_of_blk hx3 2).1
                  have HB3 := Lib.hid (bch (bal HK.out _) hb3)
                  clear hb3 hx3
                  by_cases hG : m0 + S ≤ 65536
                  · go_wp2_with fail
                    go_roundw
                    case rel => exact ⟨q + 1, by omega, by go_num, by rw [HST.out, HZ.out, Int.add_zero], .inr (by rw [HST.out, HZ.out]; omega), HB3.out⟩
                    case measure => simp [intOf]; omega
                  · have hR := HRf.out (HGR.out (by have := HM0.out; have := HZ.out; omega))
                    subst hR
                    go_wp2_with fail
                    go_ret
                    exact ⟨rfl, bch HB1.out HB3.out⟩
              · obtain rfl : q = p.arrays.length := by omega
                rw [List.take_length] at hS2 ⊢
                have hrn := railSum_nonneg p.arrays
                have HK := Lib.hid hK2
                by_cases hG : m0 + railSum p.arrays ≤ 65536
                · have hR := HRt.out (by unfold greatP; have := HM0.out; omega)
                  subst hR
                  clear hK2 hS2
                  generalize railSum p.arrays = S at *
                  go_wp2_with fail
                  go_ret
                  exact ⟨by first | (simp; omega) | simp | (simp [hG]), bch HB1.out HK.out⟩
                · have hR := HRf.out (by unfold greatP; have := HM0.out; omega)
                  subst hR
                  clear hK2 hS2
                  generalize railSum p.arrays = S at *
                  go_wp2_with fail
                  go_ret
                  exact ⟨by first | (simp; omega) | simp | (simp [hG]), bch HB1.out HK.out⟩
      · have hR := HRf.out (by unfold greatP; omega)
        subst hR
        go_enter Try.func23, Try.ntmps23
        go_wp2_with fail
        go_ret
        exact ⟨rfl, bnew _ _⟩
    · have hR := HRf.out (by unfold greatP; omega)
      subst hR
      go_enter Try.func23, Try.ntmps23
      go_wp2_with fail
      go_ret
      exact ⟨rfl, bnew _ _⟩
  · have hR := HRf.out (by unfold greatP; omega)
    subst hR
    go_enter Try.func23, Try.ntmps23
    go_wp2_with fail
    go_ret
    exact ⟨rfl, bnew _ _⟩
end Go.Proofs.Ythkobddggoojlaa
namespace Go.Proofs.Ythkobddggoojlaa
open Go.RowKit
set_option maxHeartbeats 4000000 in
set_option maxRecDepth 100000 in
theorem ref_great (p : Ir) (av bv : Value) (hf : p.fine) (w : World) (hI : IrRep w w.heap.size p av bv) :
    Calls Try.prog 37 #[irVal p av bv] w fun e w' => e = .returned (.bool (decide (greatP p))) ∧ Below w.heap.size w w' := by
  obtain ⟨hRA, hRB⟩ := hI
  obtain ⟨AA, ac, rfl, hac⟩ := hRA.form
  obtain ⟨BA, bc, rfl, hbc⟩ := hRB.form
  obtain ⟨hf1, hf2, hf3, hf4, hf5, hf6, hf7⟩ := hf
  unfold IntR at hf1 hf3
  have HRA := Lib.hid hRA
  have HRB := Lib.hid hRB
  have HF7 := Lib.hid hf7
  have HRM := Lib.hid (fun x W => ref_Room x W)
  generalize hA : decide (greatP p) = R at *
  have hRt : greatP p → R = true := fun h => by rw [← hA]; exact decide_eq_true h
  have hRf : ¬ greatP p → R = false := fun h => by rw [← hA]; exact decide_eq_false h
  have HRt := Lib.hid hRt
  have HRf := Lib.hid hRf
  have hrs := railSum_nonneg p.arrays
  unfold irVal
  clear hRA hRB hac hbc hf2 hf6 hf7 hRt hRf hA
  by_cases h1 : p.temps ≤ 1048576
  · by_cases h2 : (p.arrays.length : Int) ≤ 1048576
    · by_cases h3 : (p.blocks.length : Int) ≤ 1048576
      · by_cases h4 : p.out ≤ 65536
        · clear hrs
          go_enter Try.func37, Try.ntmps37
          have hs1 : (w.alloc (.cells #[.int .i64 p.temps, .slice AA p.arrays.length ac, .slice BA p.blocks.length bc, .int .i64 p.inp, .int .i64 p.out] 25)).heap.size = w.heap.size + 1 := by simp
          have hx1 := heap_alloc_new w (.cells #[.int .i64 p.temps, .slice AA p.arrays.length ac, .slice BA p.blocks.length bc, .int .i64 p.inp, .int .i64 p.out] 25)
          have hb1 := bnew w (.cells #[.int .i64 p.temps, .slice AA p.arrays.length ac, .slice BA p.blocks.length bc, .int .i64 p.inp, .int .i64 p.out] 25)
          have hmx := run_mx2 Try.prog #[3, 3] 3 0 p.out
          have HM0 : Hid (mx2 0 p.out = max p.out 0) := Lib.hid (by rw [mx2_max]; omega)
          have hmn := fun (L : Nat) => run_mn2 Try.prog #[3, 3] 3 (L : Int) 1048577
          go_wp2_with fail
          generalize w.alloc (.cells #[.int .i64 p.temps, .slice AA p.arrays.length ac, .slice BA p.blocks.length bc, .int .i64 p.inp, .int .i64 p.out] 25) = w1 at *
          have HX1 := Lib.hid hx1
          have HB1 := Lib.hid hb1
          have c4 : w1.cell? ⟨w.heap.size, 4, none⟩ = some (.int .i64 p.out) := (cell_of_blk hx1 4).1
          clear hx1 hb1
          go_quiet (fail)
          have HB1N := Lib.hid (bdrawnN (Below.refl w1.heap.size w1) nq)
          go_wp2_with fail
          generalize w1.drewN nq = wb at *
          have hm1 : mx2 0 p.out ≤ 65536 := by have := HM0.out; omega
          have hm2 : 0 ≤ mx2 0 p.out := by have := HM0.out; omega
          generalize mx2 0 p.out = m0 at *
          clear hmx c4
          go_loopw [3, 5] (fun v j wr => ∃ (k : Nat) (s : Int), k ≤ p.blocks.length ∧ j = .int .i64 k ∧ v = .int .i64 s ∧ 0 ≤ s ∧ s ≤ 2097153 ∧ (s ≤ 1048576 → s = (opsSum (p.blocks.take k) : Nat)) ∧ (1048576 < s → greatP p) ∧ Below w1.heap.size w1 wr) (fun _ j _ => p.blocks.length - (intOf j).toNat)
          case atStart => exact ⟨0, 0, by omega, rfl, rfl, by omega, by omega, fun _ => by rw [List.take_zero]; rfl, fun h => by omega, HB1N.out⟩
          case round =>
            obtain ⟨k, s, hk, rfl, rfl, hs0, hs2, hS, hG, hK⟩ := hrel
            have hx := (hK.block _ (lt_of_blk HX1.out)).trans HX1.out
            have c1 : wr.cell? ⟨w.heap.size, 1, none⟩ = some (.slice AA p.arrays.length ac) := (cell_of_blk hx 1).1
            have c2 : wr.cell? ⟨w.heap.size, 2, none⟩ = some (.slice BA p.blocks.length bc) := (cell_of_blk hx 2).1
            have HS := Lib.hid hS
            have HG := Lib.hid hG
            have HK := Lib.hid hK
            have k0 : (0 : Int) ≤ (k : Int) := by omega
            by_cases hlt : k < p.blocks.length ∧ s ≤ 1048576
            · obtain ⟨hlt, hsm⟩ := hlt
              obtain ⟨b, off, rfl, hb0, OA, oc, _, _, x0, _, _, _, _⟩ := blk_at (HRB.out.below (bch HB1.out hK) (Nat.le_refl _)) k hlt
              have hstep := opsSum_step p.blocks k hlt
              have hfine := (HF7.out _ (getD_memI p.blocks k blkNone hlt)).1
              have hgr := great_ops p (k + 1)
              rw [hstep] at hgr
              generalize p.blocks.getD k blkNone = bk at *
              obtain ⟨ops, tk, ta, ty, tn⟩ := bk
              simp only at x0 hstep hfine hgr
              generalize ops.length = L at *
              have hmnL := hmn L
              have hml : mn2 (L : Int) 1048577 = min (L : Int) 1048577 := mn2_min _ _
              have hss := hS hsm
              have HN1 : Hid (s + mn2 (L : Int) 1048577 ≤ 1048576 → s + mn2 (L : Int) 1048577 = (opsSum (p.blocks.take (k + 1)) : Nat)) := Lib.hid (fun h => by rw [hstep]; omega)
              have HN2 : Hid (1048576 < s + mn2 (L : Int) 1048577 → greatP p) := Lib.hid (fun h => hgr (by omega))
              have hr0 : 0 ≤ mn2 (L : Int) 1048577 := by omega
              have hr1 : mn2 (L : Int) 1048577 ≤ 1048577 := by omega
              have k1 : (k : Int) < (p.blocks.length : Int) := by omega
              clear hmn hml hss hgr hstep hS hG hK hx
              generalize mn2 (L : Int) 1048577 = m at *
              go_wp2_with fail
              go_roundw
              case rel => exact ⟨k + 1, s + m, by omega, by go_num, by go_num, by omega, by omega, HN1.out, HN2.out, HK.out⟩
              case measure => simp [intOf]; omega
            · have hend : s ≤ 1048576 → s = (opsSum p.blocks : Nat) := fun h => by
                obtain rfl : k = p.blocks.length := by omega
                have := hS h
                rwa [List.take_length] at this
              have HEND := Lib.hid hend
              have hdone : ¬ (k : Int) < p.blocks.length ∨ ((k : Int) < p.blocks.length ∧ ¬ s ≤ 1048576) := by omega
              clear hmn hS hG hK hx hend hlt
              rcases hdone with hd | ⟨hd, hd2⟩
              all_goals
                go_wp2_with fail
                go_loopw [4, 6] (fun v j wq => ∃ (q : Nat) (b : Int), q ≤ p.arrays.length ∧ j = .int .i64 q ∧ v = .int .i64 b ∧ 0 ≤ b ∧ b ≤ 131072 ∧ (b ≤ 65536 → b = m0 + railSum (p.arrays.take q)) ∧ (65536 < b → greatP p) ∧ Below w1.heap.size w1 wq) (fun _ j _ => p.arrays.length - (intOf j).toNat)
                case atStart => exact ⟨0, m0, by omega, rfl, rfl, by omega, by omega, fun _ => by rw [List.take_zero]; show m0 = m0 + 0; omega, fun h => by omega, HK.out⟩
                case round =>
                  obtain ⟨q, bb, hq, rfl, rfl, hb0', hb2', hS3, hG3, hK3⟩ := hrel
                  have hx3 := (hK3.block _ (lt_of_blk HX1.out)).trans HX1.out
                  have c1 : wr.cell? ⟨w.heap.size, 1, none⟩ = some (.slice AA p.arrays.length ac) := (cell_of_blk hx3 1).1
                  have HK3 := Lib.hid hK3
                  have q0 : (0 : Int) ≤ (q : Int) := by omega
                  by_cases hlt3 : q < p.arrays.length ∧ bb ≤ 65536
                  · obtain ⟨hlt3, hbm⟩ := hlt3
                    obtain ⟨ab, aoff, rfl, hab, y0, y1, y2, y3⟩ := arr_at (HRA.out.below (bch HB1.out hK3) (Nat.le_refl _)) q hlt3
                    have hstep := railSum_step p.arrays q hlt3
                    have hbr := railBytes_range (p.arrays.getD q arrNone)
                    have hgr := great_rail p (q + 1)
                    rw [hstep] at hgr
                    have hbb := hS3 hbm
                    have hm0 := HM0.out
                    generalize p.arrays.getD q arrNone = ar at *
                    have HRO := Lib.hid (HRM.out ar)
                    have HN1 : Hid (bb + railBytes ar ≤ 65536 → bb + railBytes ar = m0 + railSum (p.arrays.take (q + 1))) := Lib.hid (fun h => by rw [hstep]; omega)
                    have HN2 : Hid (65536 < bb + railBytes ar → greatP p) := Lib.hid (fun h => hgr (by omega))
                    obtain ⟨e, l, ak, o⟩ := ar
                    simp only at y0 y1 y2 y3 HRO
                    have q1 : (q : Int) < (p.arrays.length : Int) := by omega
                    clear hgr hstep hS3 hG3 hK3 hx3 hbb hm0
                    by_cases hk0 : ak = 0
                    · subst hk0
                      have hrb : railBytes ⟨e, l, 0, o⟩ = room ⟨e, l, 0, o⟩ := by unfold railBytes; rw [if_pos rfl]
                      rw [hrb] at HN1 HN2 hbr
                      generalize room ⟨e, l, 0, o⟩ = ro at *
                      obtain ⟨hbr1, hbr2⟩ := hbr
                      clear hrb
                      go_wp2_with fail
                      refine (HRO.out _).mono ?_
                      rintro e3 w3 ⟨rfl, hb3⟩
                      have HB3 := Lib.hid (bch HK3.out hb3)
                      clear hb3
                      go_wp2_with fail
                      go_roundw
                      case rel => exact ⟨q + 1, bb + ro, by omega, by go_num, by go_num, by omega, by omega, HN1.out, HN2.out, HB3.out⟩
                      case measure => simp [intOf]; omega
                    · have qk : (ak == 0) = false := by rw [beq_eq_false_iff_ne]; exact hk0
                      have hrb : railBytes ⟨e, l, ak, o⟩ = 0 := by unfold railBytes; rw [if_neg hk0]
                      rw [hrb, Int.add_zero] at HN1 HN2
                      clear hrb hbr
                      go_wp2_with fail
                      go_roundw
                      case rel => exact ⟨q + 1, bb, by omega, by go_num, by go_num, by omega, by omega, HN1.out, HN2.out, HK3.out⟩
                      case measure => simp [intOf]; omega
                  · have hR : R = (decide (1048576 < s) || decide (65536 < bb)) := by
                      by_cases g1 : 1048576 < s
                      · rw [HRt.out (HG.out g1), decide_eq_true g1]; rfl
                      · by_cases g2 : 65536 < bb
                        · rw [HRt.out (hG3 g2), decide_eq_true g2]; simp
                        · obtain rfl : q = p.arrays.length := by omega
                          have h5 := hS3 (by omega)
                          rw [List.take_length] at h5
                          have h6 := HEND.out (by omega)
                          have h7 := HM0.out
                          rw [HRf.out (by unfold greatP; omega), decide_eq_false g1, decide_eq_false g2]; rfl
                    have HR := Lib.hid hR
                    have hdone3 : ¬ (q : Int) < p.arrays.length ∨ ((q : Int) < p.arrays.length ∧ ¬ bb ≤ 65536) := by omega
                    clear hS3 hG3 hK3 hx3 hR hlt3
                    by_cases g1 : 1048576 < s
                    all_goals
                      rcases hdone3 with hd3 | ⟨hd3, hd4⟩
                      all_goals
                        first
                          | (exfalso; omega)
                          | (go_wp2_with fail; go_ret; exact ⟨by rw [HR.out]; first | rfl | (simp; done) | (simp; omega), bch HB1.out HK3.out⟩)
        · have hR := HRt.out (by unfold greatP; omega)
          subst hR
          go_enter Try.func37, Try.ntmps37
          go_wp2_with fail
          go_ret
          exact ⟨rfl, bnew _ _⟩
      · have hR := HRt.out (by unfold greatP; omega)
        subst hR
        go_enter Try.func37, Try.ntmps37
        go_wp2_with fail
        go_ret
        exact ⟨rfl, bnew _ _⟩
    · have hR := HRt.out (by unfold greatP; omega)
      subst hR
      go_enter Try.func37, Try.ntmps37
      go_wp2_with fail
      go_ret
      exact ⟨rfl, bnew _ _⟩
  · have hR := HRt.out (by unfold greatP; omega)
    subst hR
    go_enter Try.func37, Try.ntmps37
    go_wp2_with fail
    go_ret
    exact ⟨rfl, bnew _ _⟩
end Go.Proofs.Ythkobddggoojlaa
namespace Go.Proofs.Ythkobddggoojlaa
open Go.RowKit
theorem arr_shut (inp out en : Int) (a : Arr) (h : ¬ shapedP a) : arrStep inp out en a = none := by unfold arrStep; rw [if_pos h]
theorem arr_open (inp out en : Int) (a : Arr) (h : shapedP a) : arrStep inp out en a = if a.kind = 0 then (if a.off = 0 then some en else none)
      else if a.kind = 1 then (if 0 ≤ a.off ∧ a.off ≤ inp - a.elem * a.len ∧ a.off % 4 = 0 then some en else none)
      else if a.kind = 2 then (if en ≤ a.off ∧ a.off ≤ out - a.elem * a.len ∧ a.off % 4 = 0 then some (up4 (a.off + a.elem * a.len)) else none)
      else none := by unfold arrStep; rw [if_neg (by simpa using h)]
set_option maxHeartbeats 4000000 in
set_option maxRecDepth 100000 in
theorem ref_arrays (p : Ir) (AA : Option Addr) (ac : Nat) (bv : Value) (h0 : 0 ≤ p.inp ∧ p.inp ≤ 65536) (h1 : 0 ≤ p.out ∧ p.out ≤ 65536) (hn : p.arrays.length ≤ 1048576) (w : World) (hRA : SlRep arrEnc w w.heap.size (.slice AA p.arrays.length ac) p.arrays) :
    Calls Try.prog 38 #[irVal p (.slice AA p.arrays.length ac) bv] w fun e w' => e = .returned (.bool (arrEnd p.inp p.out p.arrays 0).isSome) ∧ Below w.heap.size w w' := by
  have HRM := Lib.hid (fun x W => ref_Room x W)
  have HRA := Lib.hid hRA
  obtain ⟨h01, h02⟩ := h0
  obtain ⟨h11, h12⟩ := h1
  generalize hA : (arrEnd p.inp p.out p.arrays 0).isSome = R at *
  have HA := Lib.hid hA
  unfold irVal
  clear hRA hA
  go_enter Try.func38, Try.ntmps38
  have hs1 : (w.alloc (.cells #[.int .i64 p.temps, .slice AA p.arrays.length ac, bv, .int .i64 p.inp, .int .i64 p.out] 25)).heap.size = w.heap.size + 1 := by simp
  have hx1 := heap_alloc_new w (.cells #[.int .i64 p.temps, .slice AA p.arrays.length ac, bv, .int .i64 p.inp, .int .i64 p.out] 25)
  have hb1 := bnew w (.cells #[.int .i64 p.temps, .slice AA p.arrays.length ac, bv, .int .i64 p.inp, .int .i64 p.out] 25)
  go_wp2_with fail
  generalize w.alloc (.cells #[.int .i64 p.temps, .slice AA p.arrays.length ac, bv, .int .i64 p.inp, .int .i64 p.out] 25) = w1 at *
  have HX1 := Lib.hid hx1
  have HB1 := Lib.hid hb1
  clear hx1 hb1
  go_loopw [3, 4] (fun v j wr => ∃ (k : Nat) (en : Int), k ≤ p.arrays.length ∧ j = .int .i64 k ∧ v = .int .i64 en ∧ 0 ≤ en ∧ en ≤ 200000 ∧ arrEnd p.inp p.out (p.arrays.take k) 0 = some en ∧ Below w1.heap.size w1 wr) (fun _ j _ => p.arrays.length - (intOf j).toNat)
  case atStart => exact ⟨0, 0, by omega, rfl, rfl, by omega, by omega, rfl, Below.refl _ _⟩
  case round =>
    obtain ⟨k, en, hk, rfl, rfl, hen, hen2, hend, hK⟩ := hrel
    have hx := (hK.block _ (lt_of_blk HX1.out)).trans HX1.out
    have c1 : wr.cell? ⟨w.heap.size, 1, none⟩ = some (.slice AA p.arrays.length ac) := (cell_of_blk hx 1).1
    have HX := Lib.hid hx
    have HK := Lib.hid hK
    have k0 : (0 : Int) ≤ (k : Int) := by omega
    by_cases hlt : k < p.arrays.length
    · obtain ⟨b, off, rfl, hb0, x0, x1, x2, x3⟩ := arr_at (HRA.out.below (bch HB1.out hK) (Nat.le_refl _)) k hlt
      have hstep := arrEnd_step p.inp p.out p.arrays k hlt en hend
      have hbad : arrStep p.inp p.out en (p.arrays.getD k arrNone) = none → R = false := by
        intro h
        rw [h] at hstep
        rw [← HA.out, arrEnd_fail p.inp p.out p.arrays (k + 1) hstep]; rfl
      generalize p.arrays.getD k arrNone = ar at *
      obtain ⟨e, l, ak, o⟩ := ar
      have HRO := Lib.hid (HRM.out ⟨e, l, ak, o⟩)
      simp only at x0 x1 x2 x3 HRO
      generalize hE : arrStep p.inp p.out en ⟨e, l, ak, o⟩ = st at *
      have HBAD := Lib.hid hbad
      have k1 : (k : Int) < (p.arrays.length : Int) := by omega
      have HCE : Hid (∀ w3, Below (wr.alloc (.cells #[.int .i64 e, .int .i64 l, .int .i64 ak, .int .i64 o] 59)).heap.size (wr.alloc (.cells #[.int .i64 e, .int .i64 l, .int .i64 ak, .int .i64 o] 59)) w3 →
          w3.cell? ⟨wr.heap.size, 0, none⟩ = some (.int .i64 e) ∧ w3.cell? ⟨wr.heap.size, 1, none⟩ = some (.int .i64 l) ∧ w3.cell? ⟨wr.heap.size, 2, none⟩ = some (.int .i64 ak) ∧ w3.cell? ⟨wr.heap.size, 3, none⟩ = some (.int .i64 o) ∧ w3.cell? ⟨w.heap.size, 3, none⟩ = some (.int .i64 p.inp) ∧ w3.cell? ⟨w.heap.size, 4, none⟩ = some (.int .i64 p.out)) := Lib.hid (fun w3 hb => by
        have ha := (hb.block wr.heap.size (by simp)).trans (heap_alloc_new wr _)
        have hp := (hb.block w.heap.size (by have := lt_of_blk HX.out; simp; omega)).trans (((bnew wr _).block _ (lt_of_blk HX.out)).trans HX.out)
        exact ⟨(cell_of_blk ha 0).1, (cell_of_blk ha 1).1, (cell_of_blk ha 2).1, (cell_of_blk ha 3).1, (cell_of_blk hp 3).1, (cell_of_blk hp 4).1⟩)
      clear hbad hend hK hx
      by_cases hs : shapedP ⟨e, l, ak, o⟩
      · have hro : room ⟨e, l, ak, o⟩ = up4 (e * l) := by unfold room; rw [if_pos hs]
        have hst := arr_open p.inp p.out en ⟨e, l, ak, o⟩ hs
        simp only at hst
        have hN : wrap64 (e * l) = e * l ∧ 1 ≤ e * l ∧ e * l ≤ 65536 := by
          obtain ⟨h2, h3, h4⟩ := hs
          simp only at h2 h3 h4
          rcases h2 with h2 | h2 <;> rw [h2] <;> unfold wrap64 <;> omega
        obtain ⟨e1, hN1, hN2⟩ := hN
        rw [hro] at HRO
        clear hro hs
        generalize hn2 : e * l = n at *
        have e2 : wrap64 (e * l) = n := by rw [hn2]; exact e1
        have hu : 1 ≤ up4 n ∧ up4 n ≤ n + 3 ∧ up4 n % 4 = 0 ∧ n ≤ up4 n := by unfold up4; omega
        have hup : o % 4 = 0 → up4 (o + n) = o + up4 n := by unfold up4; omega
        generalize up4 n = u at *
        obtain ⟨hu1, hu2, hu3, hu4⟩ := hu
        have qu : (u == 0) = false := by rw [beq_eq_false_iff_ne]; omega
        rw [hst] at hE
        clear hn2 hst
        by_cases o0 : o < 0
        · have q0 := o0
          have h0 : st = none := by
            rw [← hE]
            (repeat' split) <;> first | rfl | omega
          have hR := HBAD.out h0
          clear h0
          subst hR
          go_wp2_with fail
          refine (HRO.out _).mono ?_
          rintro e3 w3 ⟨rfl, hb3⟩
          obtain ⟨z0, z1, z2, z3, u3, u4⟩ := HCE.out w3 hb3
          have HB3 := Lib.hid (bch (bal HK.out _) hb3)
          clear hb3
          go_wp2_with fail
          go_ret
          exact ⟨rfl, bch HB1.out HB3.out⟩
        · have o1 : 0 ≤ o := by omega
          have tm : o.tmod 4 = o % 4 := Int.tmod_eq_emod_of_nonneg o1
          by_cases o4 : o % 4 = 0
          · have q4 : (o % 4 != 0) = false := by rw [bne_eq_false_iff_eq]; exact o4
            have hup2 := hup o4
            by_cases ob : 65536 < o
            · clear tm
              have h0 : st = none := by
                rw [← hE]
                (repeat' split) <;> first | rfl | omega
              have hR := HBAD.out h0
              clear h0
              subst hR
              go_wp2_with fail
              refine (HRO.out _).mono ?_
              rintro e3 w3 ⟨rfl, hb3⟩
              obtain ⟨z0, z1, z2, z3, u3, u4⟩ := HCE.out w3 hb3
              have HB3 := Lib.hid (bch (bal HK.out _) hb3)
              clear hb3
              go_wp2_with fail
              go_ret
              exact ⟨rfl, bch HB1.out HB3.out⟩
            · clear tm
              by_cases a0 : ak = 0
              · subst a0
                by_cases oz : o = 0
                · subst oz
                  have h0 : st = some en := by
                    rw [← hE]
                    rw [if_pos rfl, if_pos rfl]
                  have HST := Lib.hid (hstep.trans h0)
                  clear h0
                  go_wp2_with fail
                  refine (HRO.out _).mono ?_
                  rintro e3 w3 ⟨rfl, hb3⟩
                  obtain ⟨z0, z1, z2, z3, u3, u4⟩ := HCE.out w3 hb3
                  have HB3 := Lib.hid (bch (bal HK.out _) hb3)
                  clear hb3
                  go_wp2_with fail
                  go_roundw
                  case rel => exact ⟨k + 1, en, by omega, by go_num, by go_num, by omega, by omega, HST.out, HB3.out⟩
                  case measure => simp [intOf]; omega
                · have qz : (o == 0) = false := by rw [beq_eq_false_iff_ne]; exact oz
                  have h0 : st = none := by
                    rw [← hE]
                    rw [if_pos rfl, if_neg oz]
                  have hR := HBAD.out h0
                  clear h0
                  subst hR
                  go_wp2_with fail
                  refine (HRO.out _).mono ?_
                  rintro e3 w3 ⟨rfl, hb3⟩
                  obtain ⟨z0, z1, z2, z3, u3, u4⟩ := HCE.out w3 hb3
                  have HB3 := Lib.hid (bch (bal HK.out _) hb3)
                  clear hb3
                  go_wp2_with fail
                  go_ret
                  exact ⟨rfl, bch HB1.out HB3.out⟩
              · have qa : (ak == 0) = false := by rw [beq_eq_false_iff_ne]; exact a0
                by_cases a1 : ak = 1
                · subst a1
                  by_cases oi : o + n ≤ p.inp
                  · skip
                    have h0 : st = some en := by
                      rw [← hE]
                      rw [if_neg (by omega), if_pos rfl, if_pos ⟨o1, by omega, o4⟩]
                    have HST := Lib.hid (hstep.trans h0)
                    clear h0
                    go_wp2_with fail
                    refine (HRO.out _).mono ?_
                    rintro e3 w3 ⟨rfl, hb3⟩
                    obtain ⟨z0, z1, z2, z3, u3, u4⟩ := HCE.out w3 hb3
                    have HB3 := Lib.hid (bch (bal HK.out _) hb3)
                    clear hb3
                    go_wp2_with fail
                    go_roundw
                    case rel => exact ⟨k + 1, en, by omega, by go_num, by go_num, by omega, by omega, HST.out, HB3.out⟩
                    case measure => simp [intOf]; omega
                  · skip
                    have h0 : st = none := by
                      rw [← hE]
                      rw [if_neg (by omega), if_pos rfl, if_neg (by omega)]
                    have hR := HBAD.out h0
                    clear h0
                    subst hR
                    go_wp2_with fail
                    refine (HRO.out _).mono ?_
                    rintro e3 w3 ⟨rfl, hb3⟩
                    obtain ⟨z0, z1, z2, z3, u3, u4⟩ := HCE.out w3 hb3
                    have HB3 := Lib.hid (bch (bal HK.out _) hb3)
                    clear hb3
                    go_wp2_with fail
                    go_ret
                    exact ⟨rfl, bch HB1.out HB3.out⟩
                · have qb : (ak == 1) = false := by rw [beq_eq_false_iff_ne]; exact a1
                  by_cases a2 : ak = 2
                  · subst a2
                    by_cases oo : o + n ≤ p.out
                    · by_cases oe : en ≤ o
                      · skip
                        have h0 : st = some (o + u) := by
                          rw [← hE]
                          rw [if_neg (by omega), if_neg (by omega), if_pos rfl, if_pos ⟨oe, by omega, o4⟩, hup2]
                        have HST := Lib.hid (hstep.trans h0)
                        clear h0
                        go_wp2_with fail
                        refine (HRO.out _).mono ?_
                        rintro e3 w3 ⟨rfl, hb3⟩
                        obtain ⟨z0, z1, z2, z3, u3, u4⟩ := HCE.out w3 hb3
                        have HB3 := Lib.hid (bch (bal HK.out _) hb3)
                        clear hb3
                        go_wp2_with fail
                        go_roundw
                        case rel => exact ⟨k + 1, (o + u), by omega, by go_num, by go_num, by omega, by omega, HST.out, HB3.out⟩
                        case measure => simp [intOf]; omega
                      · skip
                        have h0 : st = none := by
                          rw [← hE]
                          rw [if_neg (by omega), if_neg (by omega), if_pos rfl, if_neg (by omega)]
                        have hR := HBAD.out h0
                        clear h0
                        subst hR
                        go_wp2_with fail
                        refine (HRO.out _).mono ?_
                        rintro e3 w3 ⟨rfl, hb3⟩
                        obtain ⟨z0, z1, z2, z3, u3, u4⟩ := HCE.out w3 hb3
                        have HB3 := Lib.hid (bch (bal HK.out _) hb3)
                        clear hb3
                        go_wp2_with fail
                        go_ret
                        exact ⟨rfl, bch HB1.out HB3.out⟩
                    · skip
                      have h0 : st = none := by
                        rw [← hE]
                        rw [if_neg (by omega), if_neg (by omega), if_pos rfl, if_neg (by omega)]
                      have hR := HBAD.out h0
                      clear h0
                      subst hR
                      go_wp2_with fail
                      refine (HRO.out _).mono ?_
                      rintro e3 w3 ⟨rfl, hb3⟩
                      obtain ⟨z0, z1, z2, z3, u3, u4⟩ := HCE.out w3 hb3
                      have HB3 := Lib.hid (bch (bal HK.out _) hb3)
                      clear hb3
                      go_wp2_with fail
                      go_ret
                      exact ⟨rfl, bch HB1.out HB3.out⟩
                  · have qc : (ak == 2) = false := by rw [beq_eq_false_iff_ne]; exact a2
                    have h0 : st = none := by
                      rw [← hE]
                      rw [if_neg a0, if_neg a1, if_neg a2]
                    have hR := HBAD.out h0
                    clear h0
                    subst hR
                    go_wp2_with fail
                    refine (HRO.out _).mono ?_
                    rintro e3 w3 ⟨rfl, hb3⟩
                    obtain ⟨z0, z1, z2, z3, u3, u4⟩ := HCE.out w3 hb3
                    have HB3 := Lib.hid (bch (bal HK.out _) hb3)
                    clear hb3
                    go_wp2_with fail
                    go_ret
                    exact ⟨rfl, bch HB1.out HB3.out⟩
          · have q4 : (o % 4 != 0) = true := by rw [bne_iff_ne]; exact o4
            clear tm
            have h0 : st = none := by
              rw [← hE]
              (repeat' split) <;> first | rfl | omega
            have hR := HBAD.out h0
            clear h0
            subst hR
            go_wp2_with fail
            refine (HRO.out _).mono ?_
            rintro e3 w3 ⟨rfl, hb3⟩
            obtain ⟨z0, z1, z2, z3, u3, u4⟩ := HCE.out w3 hb3
            have HB3 := Lib.hid (bch (bal HK.out _) hb3)
            clear hb3
            go_wp2_with fail
            go_ret
            exact ⟨rfl, bch HB1.out HB3.out⟩
      · have hro : room ⟨e, l, ak, o⟩ = 0 := by unfold room; rw [if_neg hs]
        rw [hro] at HRO
        clear hro
        have h0 : st = none := by
          rw [← hE]
          exact arr_shut _ _ _ _ hs
        have hR := HBAD.out h0
        clear h0
        subst hR
        go_wp2_with fail
        refine (HRO.out _).mono ?_
        rintro e3 w3 ⟨rfl, hb3⟩
        obtain ⟨z0, z1, z2, z3, u3, u4⟩ := HCE.out w3 hb3
        have HB3 := Lib.hid (bch (bal HK.out _) hb3)
        clear hb3
        go_wp2_with fail
        go_ret
        exact ⟨rfl, bch HB1.out HB3.out⟩
    · obtain rfl : k = p.arrays.length := by omega
      rw [List.take_length] at hend
      have hR : R = true := by rw [← HA.out, hend]; rfl
      subst hR
      clear hK hx hend
      go_wp2_with fail
      go_ret
      exact ⟨rfl, bch HB1.out HK.out⟩
end Go.Proofs.Ythkobddggoojlaa
