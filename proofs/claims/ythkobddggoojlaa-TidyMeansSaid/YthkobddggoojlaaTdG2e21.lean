/- Parts of a proof, joined. No condition but those that each theorem names. -/
import Derived.WalkKit
import Derived.OpenShut
import Derived.Below
import Derived.Lib.Hide
import Derived.Laws.OwnMore
import Derived.Deep.QuietTactic
import Derived.Deep.AppendLies
import Derived.ProofKit
import Derived.SizedLaws
import Derived.Test.YthkobddggoojlaaProg
import Derived.Handy
import Derived.Deep.RegionHeld3
import Derived.BigQuiet
import Derived.Test.YthkobddggoojlaaTdG0e0
import Derived.Test.YthkobddggoojlaaTdIr
import Derived.Test.YthkobddggoojlaaTdG1e2
import Derived.Test.YthkobddggoojlaaTdIrC
import Derived.Test.YthkobddggoojlaaTdG1e10
import Derived.Test.YthkobddggoojlaaTdG0e1
import Derived.Test.YthkobddggoojlaaTdG1e4
import Derived.Test.YthkobddggoojlaaTdIrE
namespace Go.Proofs.Ythkobddggoojlaa
open Go.RowKit
theorem bdr2 {B : Nat} {a w : World} (h : Below B a w) : Below B a w.drew := ⟨h.os, h.tape, h.output, h.size, h.block⟩
theorem ref_field (p : Ir) (av bv : Value) (b : Bool) (t : Int) (w : World) : Calls Try.prog 55 #[irVal p av bv, .bool b, .int .i64 t] w fun e w' => e = .returned (.bool (decide (fieldP p b t))) ∧ Below w.heap.size w w' := by
  obtain ⟨T, arrays, blocks, inp, out⟩ := p
  have hP : fieldP ⟨T, arrays, blocks, inp, out⟩ b t ↔ (if b then (0 ≤ t ∧ t < T) else t = 0) := Iff.rfl
  generalize hA : decide (fieldP ⟨T, arrays, blocks, inp, out⟩ b t) = R at *
  have HP := Lib.hid hP
  unfold irVal
  simp only
  clear hP
  cases b
  · have hR : R = (t == 0) := by
      rw [← hA, Bool.eq_iff_iff, decide_eq_true_iff, HP.out, beq_iff_eq]; simp
    subst hR
    clear hA
    go_enter Try.func55, Try.ntmps55
    go_wp2_with fail
    go_ret
    exact ⟨rfl, bnew _ _⟩
  · by_cases h0 : 0 ≤ t
    · by_cases h1 : t < T
      · have hR : R = true := by rw [← hA]; apply decide_eq_true; rw [HP.out]; simp; omega
        subst hR
        clear hA
        go_enter Try.func55, Try.ntmps55
        go_wp2_with fail
        go_ret
        exact ⟨by first | rfl | (simp; done) | (simp; omega), bnew _ _⟩
      · have hR : R = false := by rw [← hA]; apply decide_eq_false; rw [HP.out]; simp; omega
        subst hR
        clear hA
        go_enter Try.func55, Try.ntmps55
        go_wp2_with fail
        go_ret
        exact ⟨by first | rfl | (simp; done) | (simp; omega), bnew _ _⟩
    · have hR : R = false := by rw [← hA]; apply decide_eq_false; rw [HP.out]; simp; omega
      subst hR
      clear hA
      go_enter Try.func55, Try.ntmps55
      go_wp2_with fail
      go_ret
      exact ⟨rfl, bnew _ _⟩
/-- What the letters tell of a form. -/
theorem lets_tell (k : Int) : (fOk k = false → lets k = ⟨#[]⟩) ∧ (fOk k = true → (lets k == ⟨#[]⟩) = false ∧ ((lets k).toList == ByteArray.toList ⟨#[]⟩) = false ∧ ((lets k).toList == []) = false) ∧ hasC (lets k) 100 = fDst k ∧ hasC (lets k) 97 = decide (0 < fSrc k) ∧ hasC (lets k) 98 = decide (1 < fSrc k) ∧ hasC (lets k) 99 = decide (2 < fSrc k) ∧
    hasC (lets k) 110 = decide (k = 1) ∧ hasC (lets k) 115 = decide (11 ≤ k ∧ k ≤ 13) ∧ hasC (lets k) 114 = decide (k = 18 ∨ k = 19) ∧ (lets k).size ≤ 1000000 := by
  by_cases h : 1 ≤ k ∧ k ≤ 19
  · have hk : k = 1 ∨ k = 2 ∨ k = 3 ∨ k = 4 ∨ k = 5 ∨ k = 6 ∨ k = 7 ∨ k = 8 ∨ k = 9 ∨ k = 10 ∨ k = 11 ∨ k = 12 ∨ k = 13 ∨ k = 14 ∨ k = 15 ∨ k = 16 ∨ k = 17 ∨ k = 18 ∨ k = 19 := by omega
    rcases hk with rfl | rfl | rfl | rfl | rfl | rfl | rfl | rfl | rfl | rfl | rfl | rfl | rfl | rfl | rfl | rfl | rfl | rfl | rfl
    all_goals
      refine ⟨?_, fun _ => ⟨?_, ?_, ?_⟩, ?_, ?_, ?_, ?_, ?_, ?_, ?_, ?_⟩ <;> first | decide | kernel_rfl
  · have e : lets k = ⟨#[]⟩ := by
      unfold lets
      rw [if_neg (by omega), if_neg (by omega), if_neg (by omega), if_neg (by omega), if_neg (by omega), if_neg (by omega), if_neg (by omega)]
    have e1 : fOk k = false := by unfold fOk; exact decide_eq_false h
    have e2 : fDst k = false := by unfold fDst; exact decide_eq_false (by omega)
    have e3 : fSrc k = 0 := by unfold fSrc; rw [if_neg (by omega), if_neg (by omega), if_neg (by omega)]
    rw [e, e1, e2, e3]
    refine ⟨fun _ => rfl, (by intro h; cases h), rfl, rfl, rfl, rfl, ?_, ?_, ?_, by decide⟩
    · rw [decide_eq_false (by omega)]; rfl
    · rw [decide_eq_false (by omega)]; rfl
    · rw [decide_eq_false (by omega)]; rfl
set_option maxHeartbeats 2000000 in
set_option maxRecDepth 100000 in
theorem ref_term (p : Ir) (av : Value) (BA : Option Addr) (bc : Nat) (t : Trm) (h2 : p.blocks.length ≤ 4398046511104) (w : World) : Calls Try.prog 40 #[irVal p av (.slice BA p.blocks.length bc), trmVal t] w fun e w' => e = .returned (.bool (decide (trmP p t))) ∧ Below w.heap.size w w' := by
  obtain ⟨T, arrays, blocks, inp, out⟩ := p
  obtain ⟨tk, ta, ty, tn⟩ := t
  have hP : trmP ⟨T, arrays, blocks, inp, out⟩ ⟨tk, ta, ty, tn⟩ ↔ (tk = 1 ∧ ta = 0 ∧ tn = 0 ∧ -1 ≤ ty ∧ ty < (blocks.length : Int)) ∨ (tk = 2 ∧ (0 ≤ ta ∧ ta < T) ∧ (-1 ≤ ty ∧ ty < (blocks.length : Int)) ∧ -1 ≤ tn ∧ tn < (blocks.length : Int)) ∨ (tk = 3 ∧ ta = 0 ∧ ty = 0 ∧ tn = 0) := Iff.rfl
  generalize hA : decide (trmP ⟨T, arrays, blocks, inp, out⟩ ⟨tk, ta, ty, tn⟩) = R at *
  unfold irVal trmVal
  simp only at h2 ⊢
  generalize blocks.length = L at *
  have HP := Lib.hid hP
  have HA := Lib.hid hA
  clear hP hA
  by_cases k1 : tk = 1
  · subst k1
    by_cases c4 : ta = 0
    · subst c4
      by_cases c6 : tn = 0
      · subst c6
        by_cases c8 : -1 ≤ ty
        · skip
          by_cases c10 : ty < (L : Int)
          · skip
            have hR : R = true := by rw [← HA.out]; apply decide_eq_true; rw [HP.out]; omega
            subst hR
            go_enter Try.func40, Try.ntmps40
            go_wp2_with fail
            go_ret
            exact ⟨by first | rfl | (simp; done) | (simp; omega), bal (bnew _ _) _⟩
          · skip
            have hR : R = false := by rw [← HA.out]; apply decide_eq_false; rw [HP.out]; omega
            subst hR
            go_enter Try.func40, Try.ntmps40
            go_wp2_with fail
            go_ret
            exact ⟨by first | rfl | (simp; done) | (simp; omega), bal (bnew _ _) _⟩
        · skip
          have hR : R = false := by rw [← HA.out]; apply decide_eq_false; rw [HP.out]; omega
          subst hR
          go_enter Try.func40, Try.ntmps40
          go_wp2_with fail
          go_ret
          exact ⟨by first | rfl | (simp; done) | (simp; omega), bal (bnew _ _) _⟩
      · have q6 : (tn == 0) = false := by rw [beq_eq_false_iff_ne]; exact c6
        have hR : R = false := by rw [← HA.out]; apply decide_eq_false; rw [HP.out]; omega
        subst hR
        go_enter Try.func40, Try.ntmps40
        go_wp2_with fail
        go_ret
        exact ⟨by first | rfl | (simp; done) | (simp; omega), bal (bnew _ _) _⟩
    · have q4 : (ta == 0) = false := by rw [beq_eq_false_iff_ne]; exact c4
      have hR : R = false := by rw [← HA.out]; apply decide_eq_false; rw [HP.out]; omega
      subst hR
      go_enter Try.func40, Try.ntmps40
      go_wp2_with fail
      go_ret
      exact ⟨by first | rfl | (simp; done) | (simp; omega), bal (bnew _ _) _⟩
  · have q1 : (tk == 1) = false := by rw [beq_eq_false_iff_ne]; exact k1
    by_cases k2 : tk = 2
    · subst k2
      by_cases c6 : 0 ≤ ta
      · skip
        by_cases c8 : ta < T
        · skip
          by_cases c10 : -1 ≤ ty
          · skip
            by_cases c12 : ty < (L : Int)
            · skip
              by_cases c14 : -1 ≤ tn
              · skip
                by_cases c16 : tn < (L : Int)
                · skip
                  have hR : R = true := by rw [← HA.out]; apply decide_eq_true; rw [HP.out]; omega
                  subst hR
                  go_enter Try.func40, Try.ntmps40
                  go_wp2_with fail
                  go_ret
                  exact ⟨by first | rfl | (simp; done) | (simp; omega), bal (bnew _ _) _⟩
                · skip
                  have hR : R = false := by rw [← HA.out]; apply decide_eq_false; rw [HP.out]; omega
                  subst hR
                  go_enter Try.func40, Try.ntmps40
                  go_wp2_with fail
                  go_ret
                  exact ⟨by first | rfl | (simp; done) | (simp; omega), bal (bnew _ _) _⟩
              · skip
                have hR : R = false := by rw [← HA.out]; apply decide_eq_false; rw [HP.out]; omega
                subst hR
                go_enter Try.func40, Try.ntmps40
                go_wp2_with fail
                go_ret
                exact ⟨by first | rfl | (simp; done) | (simp; omega), bal (bnew _ _) _⟩
            · skip
              have hR : R = false := by rw [← HA.out]; apply decide_eq_false; rw [HP.out]; omega
              subst hR
              go_enter Try.func40, Try.ntmps40
              go_wp2_with fail
              go_ret
              exact ⟨by first | rfl | (simp; done) | (simp; omega), bal (bnew _ _) _⟩
          · skip
            have hR : R = false := by rw [← HA.out]; apply decide_eq_false; rw [HP.out]; omega
            subst hR
            go_enter Try.func40, Try.ntmps40
            go_wp2_with fail
            go_ret
            exact ⟨by first | rfl | (simp; done) | (simp; omega), bal (bnew _ _) _⟩
        · skip
          have hR : R = false := by rw [← HA.out]; apply decide_eq_false; rw [HP.out]; omega
          subst hR
          go_enter Try.func40, Try.ntmps40
          go_wp2_with fail
          go_ret
          exact ⟨by first | rfl | (simp; done) | (simp; omega), bal (bnew _ _) _⟩
      · skip
        have hR : R = false := by rw [← HA.out]; apply decide_eq_false; rw [HP.out]; omega
        subst hR
        go_enter Try.func40, Try.ntmps40
        go_wp2_with fail
        go_ret
        exact ⟨by first | rfl | (simp; done) | (simp; omega), bal (bnew _ _) _⟩
    · have q2 : (tk == 2) = false := by rw [beq_eq_false_iff_ne]; exact k2
      by_cases k3 : tk = 3
      · subst k3
        by_cases c8 : ta = 0
        · subst c8
          by_cases c10 : ty = 0
          · subst c10
            by_cases c12 : tn = 0
            · subst c12
              have hR : R = true := by rw [← HA.out]; apply decide_eq_true; rw [HP.out]; omega
              subst hR
              go_enter Try.func40, Try.ntmps40
              go_wp2_with fail
              go_ret
              exact ⟨by first | rfl | (simp; done) | (simp; omega), bal (bnew _ _) _⟩
            · have q12 : (tn == 0) = false := by rw [beq_eq_false_iff_ne]; exact c12
              have hR : R = false := by rw [← HA.out]; apply decide_eq_false; rw [HP.out]; omega
              subst hR
              go_enter Try.func40, Try.ntmps40
              go_wp2_with fail
              go_ret
              exact ⟨by first | rfl | (simp; done) | (simp; omega), bal (bnew _ _) _⟩
          · have q10 : (ty == 0) = false := by rw [beq_eq_false_iff_ne]; exact c10
            have hR : R = false := by rw [← HA.out]; apply decide_eq_false; rw [HP.out]; omega
            subst hR
            go_enter Try.func40, Try.ntmps40
            go_wp2_with fail
            go_ret
            exact ⟨by first | rfl | (simp; done) | (simp; omega), bal (bnew _ _) _⟩
        · have q8 : (ta == 0) = false := by rw [beq_eq_false_iff_ne]; exact c8
          have hR : R = false := by rw [← HA.out]; apply decide_eq_false; rw [HP.out]; omega
          subst hR
          go_enter Try.func40, Try.ntmps40
          go_wp2_with fail
          go_ret
          exact ⟨by first | rfl | (simp; done) | (simp; omega), bal (bnew _ _) _⟩
      · have q3 : (tk == 3) = false := by rw [beq_eq_false_iff_ne]; exact k3
        have hR : R = false := by rw [← HA.out]; apply decide_eq_false; rw [HP.out]; omega
        subst hR
        go_enter Try.func40, Try.ntmps40
        go_wp2_with fail
        go_ret
        exact ⟨by first | rfl | (simp; done) | (simp; omega), bal (bnew _ _) _⟩
end Go.Proofs.Ythkobddggoojlaa
namespace Go.Proofs.Ythkobddggoojlaa
open Go.RowKit
set_option maxHeartbeats 4000000 in
set_option maxRecDepth 100000 in
theorem ref_great (p : Ir) (av bv : Value) (hf : p.fine) (w : World) (hI : IrRep w w.heap.size p av bv) :
    Calls Try.prog 37 #[irVal p av bv] w fun e w' => e = .returned (.bool (decide (greatP p))) ∧ Below w.heap.size w w' := by
  obtain ⟨hRA, hRB⟩ := hI
  obtain ⟨AA, ac, rfl, hac⟩ := hRA.form
  obtain ⟨BA, bc, rfl, hbc⟩ := hRB.form
  obtain ⟨hf1, hf2, hf3, hf4, hf5, hf6, hf7⟩ := hf
  unfold IntR at hf1 hf3
  have HRA := Lib.hid hRA
  have HRB := Lib.hid hRB
  have HF7 := Lib.hid hf7
  have HRM := Lib.hid (fun x W => ref_Room x W)
  generalize hA : decide (greatP p) = R at *
  have hRt : greatP p → R = true := fun h => by rw [← hA]; exact decide_eq_true h
  have hRf : ¬ greatP p → R = false := fun h => by rw [← hA]; exact decide_eq_false h
  have HRt := Lib.hid hRt
  have HRf := Lib.hid hRf
  have hrs := railSum_nonneg p.arrays
  unfold irVal
  clear hRA hRB hac hbc hf2 hf6 hf7 hRt hRf hA
  by_cases h1 : p.temps ≤ 1048576
  · by_cases h2 : (p.arrays.length : Int) ≤ 1048576
    · by_cases h3 : (p.blocks.length : Int) ≤ 1048576
      · by_cases h4 : p.out ≤ 65536
        · clear hrs
          go_enter Try.func37, Try.ntmps37
          have hs1 : (w.alloc (.cells #[.int .i64 p.temps, .slice AA p.arrays.length ac, .slice BA p.blocks.length bc, .int .i64 p.inp, .int .i64 p.out] 25)).heap.size = w.heap.size + 1 := by simp
          have hx1 := heap_alloc_new w (.cells #[.int .i64 p.temps, .slice AA p.arrays.length ac, .slice BA p.blocks.length bc, .int .i64 p.inp, .int .i64 p.out] 25)
          have hb1 := bnew w (.cells #[.int .i64 p.temps, .slice AA p.arrays.length ac, .slice BA p.blocks.length bc, .int .i64 p.inp, .int .i64 p.out] 25)
          have hmx := run_mx2 Try.prog #[3, 3] 3 0 p.out
          have HM0 : Hid (mx2 0 p.out = max p.out 0) := Lib.hid (by rw [mx2_max]; omega)
          have hmn := fun (L : Nat) => run_mn2 Try.prog #[3, 3] 3 (L : Int) 1048577
          go_wp2_with fail
          generalize w.alloc (.cells #[.int .i64 p.temps, .slice AA p.arrays.length ac, .slice BA p.blocks.length bc, .int .i64 p.inp, .int .i64 p.out] 25) = w1 at *
          have HX1 := Lib.hid hx1
          have HB1 := Lib.hid hb1
          have c4 : w1.cell? ⟨w.heap.size, 4, none⟩ = some (.int .i64 p.out) := (cell_of_blk hx1 4).1
          clear hx1 hb1
          go_quiet (fail)
          have HB1N := Lib.hid (bdrawnN (Below.refl w1.heap.size w1) nq)
          go_wp2_with fail
          generalize w1.drewN nq = wb at *
          have hm1 : mx2 0 p.out ≤ 65536 := by have := HM0.out; omega
          have hm2 : 0 ≤ mx2 0 p.out := by have := HM0.out; omega
          generalize mx2 0 p.out = m0 at *
          clear hmx c4
          go_loopw [3, 5] (fun v j wr => ∃ (k : Nat) (s : Int), k ≤ p.blocks.length ∧ j = .int .i64 k ∧ v = .int .i64 s ∧ 0 ≤ s ∧ s ≤ 2097153 ∧ (s ≤ 1048576 → s = (opsSum (p.blocks.take k) : Nat)) ∧ (1048576 < s → greatP p) ∧ Below w1.heap.size w1 wr) (fun _ j _ => p.blocks.length - (intOf j).toNat)
          case atStart => exact ⟨0, 0, by omega, rfl, rfl, by omega, by omega, fun _ => by rw [List.take_zero]; rfl, fun h => by omega, HB1N.out⟩
          case round =>
            obtain ⟨k, s, hk, rfl, rfl, hs0, hs2, hS, hG, hK⟩ := hrel
            have hx := (hK.block _ (lt_of_blk HX1.out)).trans HX1.out
            have c1 : wr.cell? ⟨w.heap.size, 1, none⟩ = some (.slice AA p.arrays.length ac) := (cell_of_blk hx 1).1
            have c2 : wr.cell? ⟨w.heap.size, 2, none⟩ = some (.slice BA p.blocks.length bc) := (cell_of_blk hx 2).1
            have HS := Lib.hid hS
            have HG := Lib.hid hG
            have HK := Lib.hid hK
            have k0 : (0 : Int) ≤ (k : Int) := by omega
            by_cases hlt : k < p.blocks.length ∧ s ≤ 1048576
            · obtain ⟨hlt, hsm⟩ := hlt
              obtain ⟨b, off, rfl, hb0, OA, oc, _, _, x0, _, _, _, _⟩ := blk_at (HRB.out.below (bch HB1.out hK) (Nat.le_refl _)) k hlt
              have hstep := opsSum_step p.blocks k hlt
              have hfine := (HF7.out _ (getD_memI p.blocks k blkNone hlt)).1
              have hgr := great_ops p (k + 1)
              rw [hstep] at hgr
              generalize p.blocks.getD k blkNone = bk at *
              obtain ⟨ops, tk, ta, ty, tn⟩ := bk
              simp only at x0 hstep hfine hgr
              generalize ops.length = L at *
              have hmnL := hmn L
              have hml : mn2 (L : Int) 1048577 = min (L : Int) 1048577 := mn2_min _ _
              have hss := hS hsm
              have HN1 : Hid (s + mn2 (L : Int) 1048577 ≤ 1048576 → s + mn2 (L : Int) 1048577 = (opsSum (p.blocks.take (k + 1)) : Nat)) := Lib.hid (fun h => by rw [hstep]; omega)
              have HN2 : Hid (1048576 < s + mn2 (L : Int) 1048577 → greatP p) := Lib.hid (fun h => hgr (by omega))
              have hr0 : 0 ≤ mn2 (L : Int) 1048577 := by omega
              have hr1 : mn2 (L : Int) 1048577 ≤ 1048577 := by omega
              have k1 : (k : Int) < (p.blocks.length : Int) := by omega
              clear hmn hml hss hgr hstep hS hG hK hx
              generalize mn2 (L : Int) 1048577 = m at *
              go_wp2_with fail
              go_roundw
              case rel => exact ⟨k + 1, s + m, by omega, by go_num, by go_num, by omega, by omega, HN1.out, HN2.out, HK.out⟩
              case measure => simp [intOf]; omega
            · have hend : s ≤ 1048576 → s = (opsSum p.blocks : Nat) := fun h => by
                obtain rfl : k = p.blocks.length := by omega
                have := hS h
                rwa [List.take_length] at this
              have HEND := Lib.hid hend
              have hdone : ¬ (k : Int) < p.blocks.length ∨ ((k : Int) < p.blocks.length ∧ ¬ s ≤ 1048576) := by omega
              clear hmn hS hG hK hx hend hlt
              rcases hdone with hd | ⟨hd, hd2⟩
              all_goals
                go_wp2_with fail
                go_loopw [4, 6] (fun v j wq => ∃ (q : Nat) (b : Int), q ≤ p.arrays.length ∧ j = .int .i64 q ∧ v = .int .i64 b ∧ 0 ≤ b ∧ b ≤ 131072 ∧ (b ≤ 65536 → b = m0 + railSum (p.arrays.take q)) ∧ (65536 < b → greatP p) ∧ Below w1.heap.size w1 wq) (fun _ j _ => p.arrays.length - (intOf j).toNat)
                case atStart => exact ⟨0, m0, by omega, rfl, rfl, by omega, by omega, fun _ => by rw [List.take_zero]; show m0 = m0 + 0; omega, fun h => by omega, HK.out⟩
                case round =>
                  obtain ⟨q, bb, hq, rfl, rfl, hb0', hb2', hS3, hG3, hK3⟩ := hrel
                  have hx3 := (hK3.block _ (lt_of_blk HX1.out)).trans HX1.out
                  have c1 : wr.cell? ⟨w.heap.size, 1, none⟩ = some (.slice AA p.arrays.length ac) := (cell_of_blk hx3 1).1
                  have HK3 := Lib.hid hK3
                  have q0 : (0 : Int) ≤ (q : Int) := by omega
                  by_cases hlt3 : q < p.arrays.length ∧ bb ≤ 65536
                  · obtain ⟨hlt3, hbm⟩ := hlt3
                    obtain ⟨ab, aoff, rfl, hab, y0, y1, y2, y3⟩ := arr_at (HRA.out.below (bch HB1.out hK3) (Nat.le_refl _)) q hlt3
                    have hstep := railSum_step p.arrays q hlt3
                    have hbr := railBytes_range (p.arrays.getD q arrNone)
                    have hgr := great_rail p (q + 1)
                    rw [hstep] at hgr
                    have hbb := hS3 hbm
                    have hm0 := HM0.out
                    generalize p.arrays.getD q arrNone = ar at *
                    have HRO := Lib.hid (HRM.out ar)
                    have HN1 : Hid (bb + railBytes ar ≤ 65536 → bb + railBytes ar = m0 + railSum (p.arrays.take (q + 1))) := Lib.hid (fun h => by rw [hstep]; omega)
                    have HN2 : Hid (65536 < bb + railBytes ar → greatP p) := Lib.hid (fun h => hgr (by omega))
                    obtain ⟨e, l, ak, o⟩ := ar
                    simp only at y0 y1 y2 y3 HRO
                    have q1 : (q : Int) < (p.arrays.length : Int) := by omega
                    clear hgr hstep hS3 hG3 hK3 hx3 hbb hm0
                    by_cases hk0 : ak = 0
                    · subst hk0
                      have hrb : railBytes ⟨e, l, 0, o⟩ = room ⟨e, l, 0, o⟩ := by unfold railBytes; rw [if_pos rfl]
                      rw [hrb] at HN1 HN2 hbr
                      generalize room ⟨e, l, 0, o⟩ = ro at *
                      obtain ⟨hbr1, hbr2⟩ := hbr
                      clear hrb
                      go_wp2_with fail
                      refine (HRO.out _).mono ?_
                      rintro e3 w3 ⟨rfl, hb3⟩
                      have HB3 := Lib.hid (bch HK3.out hb3)
                      clear hb3
                      go_wp2_with fail
                      go_roundw
                      case rel => exact ⟨q + 1, bb + ro, by omega, by go_num, by go_num, by omega, by omega, HN1.out, HN2.out, HB3.out⟩
                      case measure => simp [intOf]; omega
                    · have qk : (ak == 0) = false := by rw [beq_eq_false_iff_ne]; exact hk0
                      have hrb : railBytes ⟨e, l, ak, o⟩ = 0 := by unfold railBytes; rw [if_neg hk0]
                      rw [hrb, Int.add_zero] at HN1 HN2
                      clear hrb hbr
                      go_wp2_with fail
                      go_roundw
                      case rel => exact ⟨q + 1, bb, by omega, by go_num, by go_num, by omega, by omega, HN1.out, HN2.out, HK3.out⟩
                      case measure => simp [intOf]; omega
                  · have hR : R = (decide (1048576 < s) || decide (65536 < bb)) := by
                      by_cases g1 : 1048576 < s
                      · rw [HRt.out (HG.out g1), decide_eq_true g1]; rfl
                      · by_cases g2 : 65536 < bb
                        · rw [HRt.out (hG3 g2), decide_eq_true g2]; simp
                        · obtain rfl : q = p.arrays.length := by omega
                          have h5 := hS3 (by omega)
                          rw [List.take_length] at h5
                          have h6 := HEND.out (by omega)
                          have h7 := HM0.out
                          rw [HRf.out (by unfold greatP; omega), decide_eq_false g1, decide_eq_false g2]; rfl
                    have HR := Lib.hid hR
                    have hdone3 : ¬ (q : Int) < p.arrays.length ∨ ((q : Int) < p.arrays.length ∧ ¬ bb ≤ 65536) := by omega
                    clear hS3 hG3 hK3 hx3 hR hlt3
                    by_cases g1 : 1048576 < s
                    all_goals
                      rcases hdone3 with hd3 | ⟨hd3, hd4⟩
                      all_goals
                        first
                          | (exfalso; omega)
                          | (go_wp2_with fail; go_ret; exact ⟨by rw [HR.out]; first | rfl | (simp; done) | (simp; omega), bch HB1.out HK3.out⟩)
        · have hR := HRt.out (by unfold greatP; omega)
          subst hR
          go_enter Try.func37, Try.ntmps37
          go_wp2_with fail
          go_ret
          exact ⟨rfl, bnew _ _⟩
      · have hR := HRt.out (by unfold greatP; omega)
        subst hR
        go_enter Try.func37, Try.ntmps37
        go_wp2_with fail
        go_ret
        exact ⟨rfl, bnew _ _⟩
    · have hR := HRt.out (by unfold greatP; omega)
      subst hR
      go_enter Try.func37, Try.ntmps37
      go_wp2_with fail
      go_ret
      exact ⟨rfl, bnew _ _⟩
  · have hR := HRt.out (by unfold greatP; omega)
    subst hR
    go_enter Try.func37, Try.ntmps37
    go_wp2_with fail
    go_ret
    exact ⟨rfl, bnew _ _⟩
end Go.Proofs.Ythkobddggoojlaa
