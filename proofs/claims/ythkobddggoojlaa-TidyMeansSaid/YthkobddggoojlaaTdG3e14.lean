/- Parts of a proof. No condition but those that each theorem names. -/
import Derived.WalkKit
import Derived.OpenShut
import Derived.Below
import Derived.Lib.Hide
import Derived.Laws.OwnMore
import Derived.Deep.QuietTactic
import Derived.Deep.AppendLies
import Derived.ProofKit
import Derived.SizedLaws
import Derived.Test.YthkobddggoojlaaProg
import Derived.Handy
import Derived.Deep.RegionHeld3
import Derived.BigQuiet
import Derived.Maps.AppendAt
import Derived.StillTailTactics
import Derived.Laws.CopyOwn
import Derived.Lib.BufferWrite
import Derived.OrdersHeld
import Derived.RegionTactic
import Derived.Test.YthkobddggoojlaaTdG0e0
import Derived.Test.YthkobddggoojlaaTdIr
import Derived.Test.YthkobddggoojlaaTdG1e2
import Derived.Test.YthkobddggoojlaaTdG1e4
import Derived.Test.YthkobddggoojlaaTdG1e10
import Derived.Test.YthkobddggoojlaaTdG2e21
import Derived.Test.YthkobddggoojlaaTdG1e14
import Derived.Test.YthkobddggoojlaaTdRefP1
import Derived.Test.YthkobddggoojlaaTdRefQ
import Derived.Test.YthkobddggoojlaaTdRefR
namespace Go.Proofs.Ythkobddggoojlaa
open Go.RowKit
set_option linter.unusedVariables false
theorem ref_op (p : Ir) (AA : Option Addr) (ac : Nat) (bv : Value) (o : Opn) (h2 : p.arrays.length ≤ 1048576) (w : World) (hRA : SlRep arrEnc w w.heap.size (.slice AA p.arrays.length ac) p.arrays) :
    Calls Try.prog 39 #[irVal p (.slice AA p.arrays.length ac) bv, opVal o] w fun e w' => e = .returned (.bool (decide (opP p o))) ∧ Below w.heap.size w w' := by
  obtain ⟨k, d, a, b, c, i⟩ := o
  have hP : opP p ⟨k, d, a, b, c, i⟩ ↔ (fOk k = true ∧ (0 ≤ i ∧ i ≤ fMost k) ∧ fieldP p (fDst k) d ∧ fieldP p (decide (0 < fSrc k)) a ∧ fieldP p (decide (1 < fSrc k)) b ∧ fieldP p (decide (2 < fSrc k)) c ∧
    (k = 18 ∨ k = 19 → i < p.arrays.length ∧ (k = 18 ∨ (p.arrays.getD i.toNat arrNone).kind ≠ 1))) := Iff.rfl
  obtain ⟨L1, L2, L100, L97, L98, L99, L110, L115, L114, Lsz⟩ := lets_tell k
  have HLT := fun W => ref_letters k W
  have hmo : fMost k = if k = 1 then 4294967295 else if 11 ≤ k ∧ k ≤ 13 then 31 else if k = 18 ∨ k = 19 then 1048576 else 0 := rfl
  unfold opVal irVal
  simp only
  have hno : ∀ (h : ¬ opP p ⟨k, d, a, b, c, i⟩), decide (opP p ⟨k, d, a, b, c, i⟩) = false := fun h => decide_eq_false h
  by_cases fo : fOk k = true
  · obtain ⟨qL, qL2, qL3⟩ := L2 fo
    by_cases f1 : fieldP p (fDst k) d
    · have g0 := decide_eq_true f1
      by_cases f2 : fieldP p (decide (0 < fSrc k)) a
      · have g1 := decide_eq_true f2
        by_cases f3 : fieldP p (decide (1 < fSrc k)) b
        · have g2 := decide_eq_true f3
          by_cases f4 : fieldP p (decide (2 < fSrc k)) c
          · have g3 := decide_eq_true f4
            by_cases hi : 0 ≤ i
            · have hQ : opP p ⟨k, d, a, b, c, i⟩ ↔ (i ≤ fMost k ∧ (k = 18 ∨ k = 19 → i < p.arrays.length ∧ (k = 18 ∨ (p.arrays.getD i.toNat arrNone).kind ≠ 1))) := hP.trans ⟨fun h => ⟨h.2.1.2, h.2.2.2.2.2.2⟩, fun h => ⟨fo, ⟨hi, h.1⟩, f1, f2, f3, f4, h.2⟩⟩
              by_cases k1 : k = 1
              · have e : decide (opP p ⟨k, d, a, b, c, i⟩) = decide (i ≤ 4294967295) := by
                  rw [decide_eq_decide, hQ, hmo, if_pos k1]
                  exact ⟨fun h => h.1, fun h => ⟨h, fun h3 => by omega⟩⟩
                rw [e]
                exact ref_op_n p AA ac bv k d a b c i (lets k) _ _ _ _ qL qL2 qL3 Lsz L100 L97 L98 L99 g0 g1 g2 g3 hi (L110.trans (decide_eq_true k1)) HLT w
              · have q110 := L110.trans (decide_eq_false k1)
                by_cases k2 : 11 ≤ k ∧ k ≤ 13
                · have e : decide (opP p ⟨k, d, a, b, c, i⟩) = decide (i < 32) := by
                    rw [decide_eq_decide, hQ, hmo, if_neg k1, if_pos k2]
                    exact ⟨fun h => by omega, fun h => ⟨by omega, fun h3 => by omega⟩⟩
                  rw [e]
                  exact ref_op_s p AA ac bv k d a b c i (lets k) _ _ _ _ qL qL2 qL3 Lsz L100 L97 L98 L99 g0 g1 g2 g3 hi q110 (L115.trans (decide_eq_true k2)) HLT w
                · have q115 := L115.trans (decide_eq_false k2)
                  by_cases k3 : k = 18 ∨ k = 19
                  · have q114 := L114.trans (decide_eq_true k3)
                    by_cases hil : i < (p.arrays.length : Int)
                    · by_cases k18 : k = 18
                      · have e : decide (opP p ⟨k, d, a, b, c, i⟩) = true := by
                          rw [decide_eq_true_iff, hQ, hmo, if_neg k1, if_neg k2, if_pos k3]
                          exact ⟨by omega, fun _ => ⟨hil, Or.inl k18⟩⟩
                        rw [e]
                        exact ref_op_r18 p AA ac bv k d a b c i (lets k) _ _ _ _ qL qL2 qL3 Lsz L100 L97 L98 L99 g0 g1 g2 g3 hi hil (by rw [beq_iff_eq]; exact k18) q110 q115 q114 HLT w
                      · obtain ⟨n, hin⟩ : ∃ n : Nat, i = (n : Int) := ⟨i.toNat, by omega⟩
                        have hnl : n < p.arrays.length := by omega
                        obtain ⟨ab, aoff, hAA, hab, _, _, y2, _⟩ := arr_at hRA n hnl
                        have hn2 : i.toNat = n := by omega
                        have e : decide (opP p ⟨k, d, a, b, c, i⟩) = ((p.arrays.getD n arrNone).kind != 1) := by
                          rw [Bool.eq_iff_iff, decide_eq_true_iff, hQ, hmo, if_neg k1, if_neg k2, if_pos k3, hn2, bne_iff_ne]
                          exact ⟨fun h => ((h.2 k3).2).resolve_left k18, fun h => ⟨by omega, fun _ => ⟨hil, Or.inr h⟩⟩⟩
                        rw [e]
                        exact ref_op_r19 p AA ac bv k d a b c i (lets k) _ _ _ _ qL qL2 qL3 Lsz L100 L97 L98 L99 g0 g1 g2 g3 n hin hnl (by rw [beq_eq_false_iff_ne]; exact k18) _ ab aoff hAA q110 q115 q114 HLT w hab y2
                    · have e := hno (fun h => hil ((hQ.1 h).2 k3).1)
                      rw [e]
                      exact ref_op_r0 p AA ac bv k d a b c i (lets k) _ _ _ _ qL qL2 qL3 Lsz L100 L97 L98 L99 g0 g1 g2 g3 hi (by omega) q110 q115 q114 HLT w
                  · have e : decide (opP p ⟨k, d, a, b, c, i⟩) = decide (i = 0) := by
                      rw [decide_eq_decide, hQ, hmo, if_neg k1, if_neg k2, if_neg k3]
                      exact ⟨fun h => by omega, fun h => ⟨by omega, fun h3 => absurd h3 k3⟩⟩
                    rw [e]
                    exact ref_op_z p AA ac bv k d a b c i (lets k) _ _ _ _ qL qL2 qL3 Lsz L100 L97 L98 L99 g0 g1 g2 g3 hi q110 q115 (L114.trans (decide_eq_false k3)) HLT w
            · rw [hno (fun h => hi (hP.1 h).2.1.1)]
              exact ref_op_bad5 p AA ac bv k d a b c i (lets k) _ _ _ _ qL qL2 qL3 Lsz L100 L97 L98 L99 g0 g1 g2 g3 (by omega) HLT w
          · rw [hno (fun h => f4 (hP.1 h).2.2.2.2.2.1)]
            exact ref_op_bad4 p AA ac bv k d a b c i (lets k) _ _ _ _ qL qL2 qL3 Lsz L100 L97 L98 L99 g0 g1 g2 (decide_eq_false f4) HLT w
        · rw [hno (fun h => f3 (hP.1 h).2.2.2.2.1)]
          exact ref_op_bad3 p AA ac bv k d a b c i (lets k) _ _ _ true qL qL2 qL3 Lsz L100 L97 L98 g0 g1 (decide_eq_false f3) HLT w
      · rw [hno (fun h => f2 (hP.1 h).2.2.2.1)]
        exact ref_op_bad2 p AA ac bv k d a b c i (lets k) _ _ true true qL qL2 qL3 Lsz L100 L97 g0 (decide_eq_false f2) HLT w
    · rw [hno (fun h => f1 (hP.1 h).2.2.1)]
      exact ref_op_bad1 p AA ac bv k d a b c i (lets k) _ true true true qL qL2 qL3 Lsz L100 (decide_eq_false f1) HLT w
  · rw [hno (fun h => fo (hP.1 h).1)]
    exact ref_op_bad0 p AA ac bv k d a b c i (lets k) true true true true (L1 (by simpa using fo)) Lsz HLT w
end Go.Proofs.Ythkobddggoojlaa
