/- Parts of a proof. No condition but those that each theorem names. -/
import Derived.WalkKit
import Derived.OpenShut
import Derived.Below
import Derived.Lib.Hide
import Derived.Laws.OwnMore
import Derived.Deep.QuietTactic
import Derived.Deep.AppendLies
import Derived.ProofKit
import Derived.SizedLaws
import Derived.Test.YthkobddggoojlaaProg
import Derived.Handy
import Derived.Deep.RegionHeld3
import Derived.BigQuiet
import Derived.Test.YthkobddggoojlaaTeG0e0
import Derived.Test.YthkobddggoojlaaTeG0e2
import Derived.Test.YthkobddggoojlaaTeIrC
import Derived.Test.YthkobddggoojlaaTeG0e11
namespace Go.Proofs.Ythkobddggoojlaa
open Go.RowKit
theorem bdr2 {B : Nat} {a w : World} (h : Below B a w) : Below B a w.drew := ⟨h.os, h.tape, h.output, h.size, h.block⟩
theorem ref_field (p : Ir) (av bv : Value) (b : Bool) (t : Int) (w : World) : Calls Try.prog 55 #[irVal p av bv, .bool b, .int .i64 t] w fun e w' => e = .returned (.bool (decide (fieldP p b t))) ∧ Below w.heap.size w w' := by
  obtain ⟨T, arrays, blocks, inp, out⟩ := p
  have hP : fieldP ⟨T, arrays, blocks, inp, out⟩ b t ↔ (if b then (0 ≤ t ∧ t < T) else t = 0) := Iff.rfl
  generalize hA : decide (fieldP ⟨T, arrays, blocks, inp, out⟩ b t) = R at *
  have HP := Lib.hid hP
  unfold irVal
  simp only
  clear hP
  cases b
  · have hR : R = (t == 0) := by
      rw [← hA, Bool.eq_iff_iff, decide_eq_true_iff, HP.out, beq_iff_eq]; simp
    subst hR
    clear hA
    go_enter Try.func55, Try.ntmps55
    go_wp2_with fail
    go_ret
    exact ⟨rfl, bnew _ _⟩
  · by_cases h0 : 0 ≤ t
    · by_cases h1 : t < T
      · have hR : R = true := by rw [← hA]; apply decide_eq_true; rw [HP.out]; simp; omega
        subst hR
        clear hA
        go_enter Try.func55, Try.ntmps55
        go_wp2_with fail
        go_ret
        exact ⟨by first | rfl | (simp; done) | (simp; omega), bnew _ _⟩
      · have hR : R = false := by rw [← hA]; apply decide_eq_false; rw [HP.out]; simp; omega
        subst hR
        clear hA
        go_enter Try.func55, Try.ntmps55
        go_wp2_with fail
        go_ret
        exact ⟨by first | rfl | (simp; done) | (simp; omega), bnew _ _⟩
    · have hR : R = false := by rw [← hA]; apply decide_eq_false; rw [HP.out]; simp; omega
      subst hR
      clear hA
      go_enter Try.func55, Try.ntmps55
      go_wp2_with fail
      go_ret
      exact ⟨rfl, bnew _ _⟩
/-- What the letters tell of a form. -/
theorem lets_tell (k : Int) : (fOk k = false → lets k = ⟨#[]⟩) ∧ (fOk k = true → (lets k == ⟨#[]⟩) = false ∧ ((lets k).toList == ByteArray.toList ⟨#[]⟩) = false ∧ ((lets k).toList == []) = false) ∧ hasC (lets k) 100 = fDst k ∧ hasC (lets k) 97 = decide (0 < fSrc k) ∧ hasC (lets k) 98 = decide (1 < fSrc k) ∧ hasC (lets k) 99 = decide (2 < fSrc k) ∧
    hasC (lets k) 110 = decide (k = 1) ∧ hasC (lets k) 115 = decide (11 ≤ k ∧ k ≤ 13) ∧ hasC (lets k) 114 = decide (k = 18 ∨ k = 19) ∧ (lets k).size ≤ 1000000 := by
  by_cases h : 1 ≤ k ∧ k ≤ 19
  · have hk : k = 1 ∨ k = 2 ∨ k = 3 ∨ k = 4 ∨ k = 5 ∨ k = 6 ∨ k = 7 ∨ k = 8 ∨ k = 9 ∨ k = 10 ∨ k = 11 ∨ k = 12 ∨ k = 13 ∨ k = 14 ∨ k = 15 ∨ k = 16 ∨ k = 17 ∨ k = 18 ∨ k = 19 := by omega
    rcases hk with rfl | rfl | rfl | rfl | rfl | rfl | rfl | rfl | rfl | rfl | rfl | rfl | rfl | rfl | rfl | rfl | rfl | rfl | rfl
    all_goals
      refine ⟨?_, fun _ => ⟨?_, ?_, ?_⟩, ?_, ?_, ?_, ?_, ?_, ?_, ?_, ?_⟩ <;> first | decide | kernel_rfl
  · have e : lets k = ⟨#[]⟩ := by
      unfold lets
      rw [if_neg (by omega), if_neg (by omega), if_neg (by omega), if_neg (by omega), if_neg (by omega), if_neg (by omega), if_neg (by omega)]
    have e1 : fOk k = false := by unfold fOk; exact decide_eq_false h
    have e2 : fDst k = false := by unfold fDst; exact decide_eq_false (by omega)
    have e3 : fSrc k = 0 := by unfold fSrc; rw [if_neg (by omega), if_neg (by omega), if_neg (by omega)]
    rw [e, e1, e2, e3]
    refine ⟨fun _ => rfl, (by intro h; cases h), rfl, rfl, rfl, rfl, ?_, ?_, ?_, by decide⟩
    · rw [decide_eq_false (by omega)]; rfl
    · rw [decide_eq_false (by omega)]; rfl
    · rw [decide_eq_false (by omega)]; rfl
set_option maxHeartbeats 2000000 in
set_option maxRecDepth 100000 in
theorem ref_term (p : Ir) (av : Value) (BA : Option Addr) (bc : Nat) (t : Trm) (h2 : p.blocks.length ≤ 4398046511104) (w : World) : Calls Try.prog 40 #[irVal p av (.slice BA p.blocks.length bc), trmVal t] w fun e w' => e = .returned (.bool (decide (trmP p t))) ∧ Below w.heap.size w w' := by
  obtain ⟨T, arrays, blocks, inp, out⟩ := p
  obtain ⟨tk, ta, ty, tn⟩ := t
  have hP : trmP ⟨T, arrays, blocks, inp, out⟩ ⟨tk, ta, ty, tn⟩ ↔ (tk = 1 ∧ ta = 0 ∧ tn = 0 ∧ -1 ≤ ty ∧ ty < (blocks.length : Int)) ∨ (tk = 2 ∧ (0 ≤ ta ∧ ta < T) ∧ (-1 ≤ ty ∧ ty < (blocks.length : Int)) ∧ -1 ≤ tn ∧ tn < (blocks.length : Int)) ∨ (tk = 3 ∧ ta = 0 ∧ ty = 0 ∧ tn = 0) := Iff.rfl
  generalize hA : decide (trmP ⟨T, arrays, blocks, inp, out⟩ ⟨tk, ta, ty, tn⟩) = R at *
  unfold irVal trmVal
  simp only at h2 ⊢
  generalize blocks.length = L at *
  have HP := Lib.hid hP
  have HA := Lib.hid hA
  clear hP hA
  by_cases k1 : tk = 1
  · subst k1
    by_cases c4 : ta = 0
    · subst c4
      by_cases c6 : tn = 0
      · subst c6
        by_cases c8 : -1 ≤ ty
        · skip
          by_cases c10 : ty < (L : Int)
          · skip
            have hR : R = true := by rw [← HA.out]; apply decide_eq_true; rw [HP.out]; omega
            subst hR
            go_enter Try.func40, Try.ntmps40
            go_wp2_with fail
            go_ret
            exact ⟨by first | rfl | (simp; done) | (simp; omega), bal (bnew _ _) _⟩
          · skip
            have hR : R = false := by rw [← HA.out]; apply decide_eq_false; rw [HP.out]; omega
            subst hR
            go_enter Try.func40, Try.ntmps40
            go_wp2_with fail
            go_ret
            exact ⟨by first | rfl | (simp; done) | (simp; omega), bal (bnew _ _) _⟩
        · skip
          have hR : R = false := by rw [← HA.out]; apply decide_eq_false; rw [HP.out]; omega
          subst hR
          go_enter Try.func40, Try.ntmps40
          go_wp2_with fail
          go_ret
          exact ⟨by first | rfl | (simp; done) | (simp; omega), bal (bnew _ _) _⟩
      · have q6 : (tn == 0) = false := by rw [beq_eq_false_iff_ne]; exact c6
        have hR : R = false := by rw [← HA.out]; apply decide_eq_false; rw [HP.out]; omega
        subst hR
        go_enter Try.func40, Try.ntmps40
        go_wp2_with fail
        go_ret
        exact ⟨by first | rfl | (simp; done) | (simp; omega), bal (bnew _ _) _⟩
    · have q4 : (ta == 0) = false := by rw [beq_eq_false_iff_ne]; exact c4
      have hR : R = false := by rw [← HA.out]; apply decide_eq_false; rw [HP.out]; omega
      subst hR
      go_enter Try.func40, Try.ntmps40
      go_wp2_with fail
      go_ret
      exact ⟨by first | rfl | (simp; done) | (simp; omega), bal (bnew _ _) _⟩
  · have q1 : (tk == 1) = false := by rw [beq_eq_false_iff_ne]; exact k1
    by_cases k2 : tk = 2
    · subst k2
      by_cases c6 : 0 ≤ ta
      · skip
        by_cases c8 : ta < T
        · skip
          by_cases c10 : -1 ≤ ty
          · skip
            by_cases c12 : ty < (L : Int)
            · skip
              by_cases c14 : -1 ≤ tn
              · skip
                by_cases c16 : tn < (L : Int)
                · skip
                  have hR : R = true := by rw [← HA.out]; apply decide_eq_true; rw [HP.out]; omega
                  subst hR
                  go_enter Try.func40, Try.ntmps40
                  go_wp2_with fail
                  go_ret
                  exact ⟨by first | rfl | (simp; done) | (simp; omega), bal (bnew _ _) _⟩
                · skip
                  have hR : R = false := by rw [← HA.out]; apply decide_eq_false; rw [HP.out]; omega
                  subst hR
                  go_enter Try.func40, Try.ntmps40
                  go_wp2_with fail
                  go_ret
                  exact ⟨by first | rfl | (simp; done) | (simp; omega), bal (bnew _ _) _⟩
              · skip
                have hR : R = false := by rw [← HA.out]; apply decide_eq_false; rw [HP.out]; omega
                subst hR
                go_enter Try.func40, Try.ntmps40
                go_wp2_with fail
                go_ret
                exact ⟨by first | rfl | (simp; done) | (simp; omega), bal (bnew _ _) _⟩
            · skip
              have hR : R = false := by rw [← HA.out]; apply decide_eq_false; rw [HP.out]; omega
              subst hR
              go_enter Try.func40, Try.ntmps40
              go_wp2_with fail
              go_ret
              exact ⟨by first | rfl | (simp; done) | (simp; omega), bal (bnew _ _) _⟩
          · skip
            have hR : R = false := by rw [← HA.out]; apply decide_eq_false; rw [HP.out]; omega
            subst hR
            go_enter Try.func40, Try.ntmps40
            go_wp2_with fail
            go_ret
            exact ⟨by first | rfl | (simp; done) | (simp; omega), bal (bnew _ _) _⟩
        · skip
          have hR : R = false := by rw [← HA.out]; apply decide_eq_false; rw [HP.out]; omega
          subst hR
          go_enter Try.func40, Try.ntmps40
          go_wp2_with fail
          go_ret
          exact ⟨by first | rfl | (simp; done) | (simp; omega), bal (bnew _ _) _⟩
      · skip
        have hR : R = false := by rw [← HA.out]; apply decide_eq_false; rw [HP.out]; omega
        subst hR
        go_enter Try.func40, Try.ntmps40
        go_wp2_with fail
        go_ret
        exact ⟨by first | rfl | (simp; done) | (simp; omega), bal (bnew _ _) _⟩
    · have q2 : (tk == 2) = false := by rw [beq_eq_false_iff_ne]; exact k2
      by_cases k3 : tk = 3
      · subst k3
        by_cases c8 : ta = 0
        · subst c8
          by_cases c10 : ty = 0
          · subst c10
            by_cases c12 : tn = 0
            · subst c12
              have hR : R = true := by rw [← HA.out]; apply decide_eq_true; rw [HP.out]; omega
              subst hR
              go_enter Try.func40, Try.ntmps40
              go_wp2_with fail
              go_ret
              exact ⟨by first | rfl | (simp; done) | (simp; omega), bal (bnew _ _) _⟩
            · have q12 : (tn == 0) = false := by rw [beq_eq_false_iff_ne]; exact c12
              have hR : R = false := by rw [← HA.out]; apply decide_eq_false; rw [HP.out]; omega
              subst hR
              go_enter Try.func40, Try.ntmps40
              go_wp2_with fail
              go_ret
              exact ⟨by first | rfl | (simp; done) | (simp; omega), bal (bnew _ _) _⟩
          · have q10 : (ty == 0) = false := by rw [beq_eq_false_iff_ne]; exact c10
            have hR : R = false := by rw [← HA.out]; apply decide_eq_false; rw [HP.out]; omega
            subst hR
            go_enter Try.func40, Try.ntmps40
            go_wp2_with fail
            go_ret
            exact ⟨by first | rfl | (simp; done) | (simp; omega), bal (bnew _ _) _⟩
        · have q8 : (ta == 0) = false := by rw [beq_eq_false_iff_ne]; exact c8
          have hR : R = false := by rw [← HA.out]; apply decide_eq_false; rw [HP.out]; omega
          subst hR
          go_enter Try.func40, Try.ntmps40
          go_wp2_with fail
          go_ret
          exact ⟨by first | rfl | (simp; done) | (simp; omega), bal (bnew _ _) _⟩
      · have q3 : (tk == 3) = false := by rw [beq_eq_false_iff_ne]; exact k3
        have hR : R = false := by rw [← HA.out]; apply decide_eq_false; rw [HP.out]; omega
        subst hR
        go_enter Try.func40, Try.ntmps40
        go_wp2_with fail
        go_ret
        exact ⟨by first | rfl | (simp; done) | (simp; omega), bal (bnew _ _) _⟩
end Go.Proofs.Ythkobddggoojlaa
