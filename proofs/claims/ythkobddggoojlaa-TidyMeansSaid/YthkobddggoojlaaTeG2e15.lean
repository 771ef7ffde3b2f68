/- Parts of a proof, joined. No condition but those that each theorem names. -/
import Derived.WalkKit
import Derived.OpenShut
import Derived.Below
import Derived.Lib.Hide
import Derived.Laws.OwnMore
import Derived.Deep.QuietTactic
import Derived.Deep.AppendLies
import Derived.ProofKit
import Derived.SizedLaws
import Derived.Test.YthkobddggoojlaaProg
import Derived.Handy
import Derived.Deep.RegionHeld3
import Derived.BigQuiet
import Derived.Maps.AppendAt
import Derived.StillTailTactics
import Derived.Laws.CopyOwn
import Derived.Lib.BufferWrite
import Derived.OrdersHeld
import Derived.RegionTactic
import Derived.Test.YthkobddggoojlaaTeG0e0
import Derived.Test.YthkobddggoojlaaTeG0e2
import Derived.Test.YthkobddggoojlaaTeG0e4
import Derived.Test.YthkobddggoojlaaTeG0e11
import Derived.Test.YthkobddggoojlaaTeG1e5
import Derived.Test.YthkobddggoojlaaTeG0e15
import Derived.Test.YthkobddggoojlaaTeG1e15
import Derived.Test.YthkobddggoojlaaTeRefQ
import Derived.Test.YthkobddggoojlaaTeRefR
import Derived.Test.YthkobddggoojlaaTeG0e1
import Derived.Test.YthkobddggoojlaaTeIrC
import Derived.Test.YthkobddggoojlaaTeG2e5
import Derived.Test.YthkobddggoojlaaTeG1e6
import Derived.Test.YthkobddggoojlaaTeG0e5
namespace Go.Proofs.Ythkobddggoojlaa
open Go.RowKit
set_option linter.unusedVariables false
theorem ref_op (p : Ir) (AA : Option Addr) (ac : Nat) (bv : Value) (o : Opn) (h2 : p.arrays.length ≤ 1048576) (w : World) (hRA : SlRep arrEnc w w.heap.size (.slice AA p.arrays.length ac) p.arrays) :
    Calls Try.prog 39 #[irVal p (.slice AA p.arrays.length ac) bv, opVal o] w fun e w' => e = .returned (.bool (decide (opP p o))) ∧ Below w.heap.size w w' := by
  obtain ⟨k, d, a, b, c, i⟩ := o
  have hP : opP p ⟨k, d, a, b, c, i⟩ ↔ (fOk k = true ∧ (0 ≤ i ∧ i ≤ fMost k) ∧ fieldP p (fDst k) d ∧ fieldP p (decide (0 < fSrc k)) a ∧ fieldP p (decide (1 < fSrc k)) b ∧ fieldP p (decide (2 < fSrc k)) c ∧
    (k = 18 ∨ k = 19 → i < p.arrays.length ∧ (k = 18 ∨ (p.arrays.getD i.toNat arrNone).kind ≠ 1))) := Iff.rfl
  obtain ⟨L1, L2, L100, L97, L98, L99, L110, L115, L114, Lsz⟩ := lets_tell k
  have HLT := fun W => ref_letters k W
  have hmo : fMost k = if k = 1 then 4294967295 else if 11 ≤ k ∧ k ≤ 13 then 31 else if k = 18 ∨ k = 19 then 1048576 else 0 := rfl
  unfold opVal irVal
  simp only
  have hno : ∀ (h : ¬ opP p ⟨k, d, a, b, c, i⟩), decide (opP p ⟨k, d, a, b, c, i⟩) = false := fun h => decide_eq_false h
  by_cases fo : fOk k = true
  · obtain ⟨qL, qL2, qL3⟩ := L2 fo
    by_cases f1 : fieldP p (fDst k) d
    · have g0 := decide_eq_true f1
      by_cases f2 : fieldP p (decide (0 < fSrc k)) a
      · have g1 := decide_eq_true f2
        by_cases f3 : fieldP p (decide (1 < fSrc k)) b
        · have g2 := decide_eq_true f3
          by_cases f4 : fieldP p (decide (2 < fSrc k)) c
          · have g3 := decide_eq_true f4
            by_cases hi : 0 ≤ i
            · have hQ : opP p ⟨k, d, a, b, c, i⟩ ↔ (i ≤ fMost k ∧ (k = 18 ∨ k = 19 → i < p.arrays.length ∧ (k = 18 ∨ (p.arrays.getD i.toNat arrNone).kind ≠ 1))) := hP.trans ⟨fun h => ⟨h.2.1.2, h.2.2.2.2.2.2⟩, fun h => ⟨fo, ⟨hi, h.1⟩, f1, f2, f3, f4, h.2⟩⟩
              by_cases k1 : k = 1
              · have e : decide (opP p ⟨k, d, a, b, c, i⟩) = decide (i ≤ 4294967295) := by
                  rw [decide_eq_decide, hQ, hmo, if_pos k1]
                  exact ⟨fun h => h.1, fun h => ⟨h, fun h3 => by omega⟩⟩
                rw [e]
                exact ref_op_n p AA ac bv k d a b c i (lets k) _ _ _ _ qL qL2 qL3 Lsz L100 L97 L98 L99 g0 g1 g2 g3 hi (L110.trans (decide_eq_true k1)) HLT w
              · have q110 := L110.trans (decide_eq_false k1)
                by_cases k2 : 11 ≤ k ∧ k ≤ 13
                · have e : decide (opP p ⟨k, d, a, b, c, i⟩) = decide (i < 32) := by
                    rw [decide_eq_decide, hQ, hmo, if_neg k1, if_pos k2]
                    exact ⟨fun h => by omega, fun h => ⟨by omega, fun h3 => by omega⟩⟩
                  rw [e]
                  exact ref_op_s p AA ac bv k d a b c i (lets k) _ _ _ _ qL qL2 qL3 Lsz L100 L97 L98 L99 g0 g1 g2 g3 hi q110 (L115.trans (decide_eq_true k2)) HLT w
                · have q115 := L115.trans (decide_eq_false k2)
                  by_cases k3 : k = 18 ∨ k = 19
                  · have q114 := L114.trans (decide_eq_true k3)
                    by_cases hil : i < (p.arrays.length : Int)
                    · by_cases k18 : k = 18
                      · have e : decide (opP p ⟨k, d, a, b, c, i⟩) = true := by
                          rw [decide_eq_true_iff, hQ, hmo, if_neg k1, if_neg k2, if_pos k3]
                          exact ⟨by omega, fun _ => ⟨hil, Or.inl k18⟩⟩
                        rw [e]
                        exact ref_op_r18 p AA ac bv k d a b c i (lets k) _ _ _ _ qL qL2 qL3 Lsz L100 L97 L98 L99 g0 g1 g2 g3 hi hil (by rw [beq_iff_eq]; exact k18) q110 q115 q114 HLT w
                      · obtain ⟨n, hin⟩ : ∃ n : Nat, i = (n : Int) := ⟨i.toNat, by omega⟩
                        have hnl : n < p.arrays.length := by omega
                        obtain ⟨ab, aoff, hAA, hab, _, _, y2, _⟩ := arr_at hRA n hnl
                        have hn2 : i.toNat = n := by omega
                        have e : decide (opP p ⟨k, d, a, b, c, i⟩) = ((p.arrays.getD n arrNone).kind != 1) := by
                          rw [Bool.eq_iff_iff, decide_eq_true_iff, hQ, hmo, if_neg k1, if_neg k2, if_pos k3, hn2, bne_iff_ne]
                          exact ⟨fun h => ((h.2 k3).2).resolve_left k18, fun h => ⟨by omega, fun _ => ⟨hil, Or.inr h⟩⟩⟩
                        rw [e]
                        exact ref_op_r19 p AA ac bv k d a b c i (lets k) _ _ _ _ qL qL2 qL3 Lsz L100 L97 L98 L99 g0 g1 g2 g3 n hin hnl (by rw [beq_eq_false_iff_ne]; exact k18) _ ab aoff hAA q110 q115 q114 HLT w hab y2
                    · have e := hno (fun h => hil ((hQ.1 h).2 k3).1)
                      rw [e]
                      exact ref_op_r0 p AA ac bv k d a b c i (lets k) _ _ _ _ qL qL2 qL3 Lsz L100 L97 L98 L99 g0 g1 g2 g3 hi (by omega) q110 q115 q114 HLT w
                  · have e : decide (opP p ⟨k, d, a, b, c, i⟩) = decide (i = 0) := by
                      rw [decide_eq_decide, hQ, hmo, if_neg k1, if_neg k2, if_neg k3]
                      exact ⟨fun h => by omega, fun h => ⟨by omega, fun h3 => absurd h3 k3⟩⟩
                    rw [e]
                    exact ref_op_z p AA ac bv k d a b c i (lets k) _ _ _ _ qL qL2 qL3 Lsz L100 L97 L98 L99 g0 g1 g2 g3 hi q110 q115 (L114.trans (decide_eq_false k3)) HLT w
            · rw [hno (fun h => hi (hP.1 h).2.1.1)]
              exact ref_op_bad5 p AA ac bv k d a b c i (lets k) _ _ _ _ qL qL2 qL3 Lsz L100 L97 L98 L99 g0 g1 g2 g3 (by omega) HLT w
          · rw [hno (fun h => f4 (hP.1 h).2.2.2.2.2.1)]
            exact ref_op_bad4 p AA ac bv k d a b c i (lets k) _ _ _ _ qL qL2 qL3 Lsz L100 L97 L98 L99 g0 g1 g2 (decide_eq_false f4) HLT w
        · rw [hno (fun h => f3 (hP.1 h).2.2.2.2.1)]
          exact ref_op_bad3 p AA ac bv k d a b c i (lets k) _ _ _ true qL qL2 qL3 Lsz L100 L97 L98 g0 g1 (decide_eq_false f3) HLT w
      · rw [hno (fun h => f2 (hP.1 h).2.2.2.1)]
        exact ref_op_bad2 p AA ac bv k d a b c i (lets k) _ _ true true qL qL2 qL3 Lsz L100 L97 g0 (decide_eq_false f2) HLT w
    · rw [hno (fun h => f1 (hP.1 h).2.2.1)]
      exact ref_op_bad1 p AA ac bv k d a b c i (lets k) _ true true true qL qL2 qL3 Lsz L100 (decide_eq_false f1) HLT w
  · rw [hno (fun h => fo (hP.1 h).1)]
    exact ref_op_bad0 p AA ac bv k d a b c i (lets k) true true true true (L1 (by simpa using fo)) Lsz HLT w
end Go.Proofs.Ythkobddggoojlaa
namespace Go.Proofs.Ythkobddggoojlaa
open Go.RowKit
theorem SlRep.keep' {T : Type} {E : Enc T} {w a b : World} {v : Value} {l : List T} (h : SlRep E a w.heap.size v l) (ha : Below w.heap.size w a) (hb : Below w.heap.size w b) : SlRep E b w.heap.size v l :=
  h.keep (Nat.le_refl _) fun _ hp => (hb.cell hp).trans (ha.cell hp).symm
set_option maxHeartbeats 4000000 in
set_option maxRecDepth 100000 in
theorem ref_Check (p : Ir) (av bv : Value) (hf : p.fine) (w : World) (hI : IrRep w w.heap.size p av bv) :
    Calls Try.prog 19 #[irVal p av bv] w fun e w' => e = .returned (.int .i64 (irErr p)) ∧ Below w.heap.size w w' := by
  have HLM := Lib.hid (fun W h => ref_great p av bv hf W h)
  obtain ⟨hRA, hRB⟩ := hI
  obtain ⟨AA, ac, rfl, hac⟩ := hRA.form
  obtain ⟨BA, bc, rfl, hbc⟩ := hRB.form
  have HI0 := Lib.hid (show IrRep w w.heap.size p _ _ from ⟨hRA, hRB⟩)
  have HRA := Lib.hid hRA
  have HRB := Lib.hid hRB
  obtain ⟨hf1, hf2, hf3, hf4, hf5, hf6, hf7⟩ := hf
  unfold IntR at hf1 hf2 hf3
  have HF7 := Lib.hid hf7
  unfold irVal at HLM ⊢
  by_cases hg : greatP p
  · have hR : irErr p = 18 := by unfold irErr; rw [if_pos hg]
    rw [hR]
    rw [decide_eq_true hg] at HLM
    clear hRA hRB hac hbc hf6 hf7 hR hg
    go_enter Try.func19, Try.ntmps19
    go_wp2_with fail
    refine (HLM.out _ (HI0.out.next (bnew _ _))).mono ?_
    rintro e w2 ⟨rfl, hb⟩
    have HB := Lib.hid (bch (bnew _ _) hb)
    clear hb
    go_wp2_with fail
    go_ret
    exact ⟨rfl, HB.out⟩
  · have HR0 : Hid (mayP p → irErr p = 0) := Lib.hid (fun h => by unfold irErr; rw [if_neg hg, if_pos h])
    have HR2 : Hid (¬ mayP p → irErr p = 2) := Lib.hid (fun h => by unfold irErr; rw [if_neg hg, if_neg h])
    rw [decide_eq_false hg] at HLM
    have hg2 := hg
    unfold greatP at hg2
    have hrs := railSum_nonneg p.arrays
    have ht : p.temps ≤ 1048576 := by omega
    have ha : p.arrays.length ≤ 1048576 := by omega
    have hbl : p.blocks.length ≤ 1048576 := by omega
    have hob : p.out ≤ 65536 := by omega
    clear hRA hRB hac hbc hf6 hf7 hg hg2 hrs
    generalize irErr p = R at *
    go_enter Try.func19, Try.ntmps19
    have hs1 : (w.alloc (.cells #[.int .i64 p.temps, .slice AA p.arrays.length ac, .slice BA p.blocks.length bc, .int .i64 p.inp, .int .i64 p.out] 25)).heap.size = w.heap.size + 1 := by simp
    have hx1 := heap_alloc_new w (.cells #[.int .i64 p.temps, .slice AA p.arrays.length ac, .slice BA p.blocks.length bc, .int .i64 p.inp, .int .i64 p.out] 25)
    have hb1 := bnew w (.cells #[.int .i64 p.temps, .slice AA p.arrays.length ac, .slice BA p.blocks.length bc, .int .i64 p.inp, .int .i64 p.out] 25)
    go_wp2_with fail
    generalize w.alloc (.cells #[.int .i64 p.temps, .slice AA p.arrays.length ac, .slice BA p.blocks.length bc, .int .i64 p.inp, .int .i64 p.out] 25) = w1 at *
    have HX1 := Lib.hid hx1
    have HB1 := Lib.hid hb1
    refine (HLM.out _ (HI0.out.next HB1.out)).mono ?_
    rintro e w2 ⟨rfl, hb⟩
    have hx2 := (hb.block _ (lt_of_blk hx1)).trans hx1
    have c0 : w2.cell? ⟨w.heap.size, 0, none⟩ = some (.int .i64 p.temps) := (cell_of_blk hx2 0).1
    have c1 : w2.cell? ⟨w.heap.size, 1, none⟩ = some (.slice AA p.arrays.length ac) := (cell_of_blk hx2 1).1
    have c2 : w2.cell? ⟨w.heap.size, 2, none⟩ = some (.slice BA p.blocks.length bc) := (cell_of_blk hx2 2).1
    have c3 : w2.cell? ⟨w.heap.size, 3, none⟩ = some (.int .i64 p.inp) := (cell_of_blk hx2 3).1
    have c4 : w2.cell? ⟨w.heap.size, 4, none⟩ = some (.int .i64 p.out) := (cell_of_blk hx2 4).1
    have HB2 := Lib.hid hb
    clear hb hx2 hx1 hb1
    by_cases i1 : p.inp < 0
    · skip
      have hR := HR2.out (fun h => by have h2 := h.1; unfold headP at h2; omega)
      subst hR
      go_wp2_with fail
      go_ret
      exact ⟨rfl, bch HB1.out HB2.out⟩
    · have i1' : 0 ≤ p.inp := by omega
      by_cases i2 : 65536 < p.inp
      · skip
        have hR := HR2.out (fun h => by have h2 := h.1; unfold headP at h2; omega)
        subst hR
        go_wp2_with fail
        go_ret
        exact ⟨rfl, bch HB1.out HB2.out⟩
      · have i2' : p.inp ≤ 65536 := by omega
        by_cases i3 : p.inp % 4 = 0
        · have q3 : (p.inp % 4 != 0) = false := by rw [bne_eq_false_iff_eq]; exact i3
          by_cases i4 : p.out < 0
          · skip
            have hR := HR2.out (fun h => by have h2 := h.1; unfold headP at h2; omega)
            subst hR
            go_wp2_with fail
            go_ret
            exact ⟨rfl, bch HB1.out HB2.out⟩
          · have i4' : 0 ≤ p.out := by omega
            by_cases i5 : p.out % 4 = 0
            · have q5 : (p.out % 4 != 0) = false := by rw [bne_eq_false_iff_eq]; exact i5
              by_cases i6 : p.temps < 0
              · skip
                have hR := HR2.out (fun h => by have h2 := h.1; unfold headP at h2; omega)
                subst hR
                go_wp2_with fail
                go_ret
                exact ⟨rfl, bch HB1.out HB2.out⟩
              · by_cases i7 : p.blocks.length = 0
                · have q7 : ((p.blocks.length : Int) == 0) = true := by rw [beq_iff_eq]; omega
                  have hR := HR2.out (fun h => h.1.2.2.2 (List.eq_nil_of_length_eq_zero i7))
                  subst hR
                  go_wp2_with fail
                  go_ret
                  exact ⟨rfl, bch HB1.out HB2.out⟩
                · have q7 : ((p.blocks.length : Int) == 0) = false := by rw [beq_eq_false_iff_ne]; omega
                  have HHEAD : Hid (headP p) := Lib.hid ⟨⟨i1', i2', i3⟩, ⟨i4', hob, i5⟩, by omega, fun h => i7 (by rw [h]; rfl)⟩
                  have HAR := Lib.hid (fun W h => ref_arrays p AA ac (.slice BA p.blocks.length bc) ⟨i1', i2'⟩ ⟨i4', hob⟩ ha W h)
                  unfold irVal at HAR
                  have HAN : Hid ((arrEnd p.inp p.out p.arrays 0).isSome = false → R = 2) := Lib.hid (fun h => HR2.out (fun hm => by have := hm.2.1; rw [h] at this; cases this))
                  generalize hae : (arrEnd p.inp p.out p.arrays 0).isSome = ae at *
                  have HAE := Lib.hid hae
                  clear hae i3 i5
                  cases ae
                  · have hR := HAN.out rfl
                    subst hR
                    go_wp2_with fail
                    refine (HAR.out _ (HRA.out.next (bch HB1.out HB2.out))).mono ?_
                    rintro e w3 ⟨rfl, hb3⟩
                    have HB3 := Lib.hid (bch HB2.out hb3)
                    clear hb3
                    go_wp2_with fail
                    go_ret
                    exact ⟨rfl, bch HB1.out HB3.out⟩
                  · go_wp2_with fail
                    refine (HAR.out _ (HRA.out.next (bch HB1.out HB2.out))).mono ?_
                    rintro e w3 ⟨rfl, hb3⟩
                    have HB3 := Lib.hid (bch HB2.out hb3)
                    clear hb3 c0 c1 c2 c3 c4
                    go_wp2_with fail
                    go_loopw [3] (fun j wr => ∃ k : Nat, k ≤ p.blocks.length ∧ j = .int .i64 k ∧ Below w1.heap.size w1 wr ∧ ∀ q, q < k → blkP p (p.blocks.getD q blkNone)) (fun j _ => p.blocks.length - (intOf j).toNat)
                    case atStart => exact ⟨0, by omega, rfl, HB3.out, fun q hq => by omega⟩
                    case round =>
                      obtain ⟨k, hk, rfl, hK2, hall⟩ := hrel
                      have HK2 := Lib.hid hK2
                      have HALL := Lib.hid hall
                      have hxp := (hK2.block _ (lt_of_blk HX1.out)).trans HX1.out
                      have c2 : wr.cell? ⟨w.heap.size, 2, none⟩ = some (.slice BA p.blocks.length bc) := (cell_of_blk hxp 2).1
                      by_cases hlt : k < p.blocks.length
                      · obtain ⟨b, off, rfl, hb0, OA, oc, hOR, hoc, x0, x1, x2, x3, x4⟩ := blk_at (HRB.out.below (bch HB1.out hK2) (Nat.le_refl _)) k hlt
                        have hbad : ¬ blkP p (p.blocks.getD k blkNone) → ¬ mayP p := fun h hm => h (hm.2.2 _ (getD_memI p.blocks k blkNone hlt))
                        have hnext : blkP p (p.blocks.getD k blkNone) → ∀ q, q < k + 1 → blkP p (p.blocks.getD q blkNone) := fun h q hq => by
                          rcases Nat.lt_or_ge q k with h3 | h3
                          · exact HALL.out q h3
                          · obtain rfl : q = k := by omega
                            exact h
                        have HBAD := Lib.hid hbad
                        have HNEXT := Lib.hid hnext
                        have hfb := (HF7.out _ (getD_memI p.blocks k blkNone hlt)).1
                        clear hbad hnext hall hxp c2
                        generalize p.blocks.getD k blkNone = bk at *
                        obtain ⟨ops, tk, ta, ty, tn⟩ := bk
                        simp only at x0 x1 x2 x3 x4 hOR hoc hfb
                        have HOR := Lib.hid hOR
                        have k0 : (0 : Int) ≤ (k : Int) := by omega
                        have k1 : (k : Int) < (p.blocks.length : Int) := by omega
                        have HBC : Hid (∀ w', Below w1.heap.size w1 w' → (w'.cell? ⟨w.heap.size, 0, none⟩ = some (.int .i64 p.temps) ∧ w'.cell? ⟨w.heap.size, 1, none⟩ = some (.slice AA p.arrays.length ac) ∧ w'.cell? ⟨w.heap.size, 2, none⟩ = some (.slice (some ⟨b, off, none⟩) p.blocks.length bc) ∧ w'.cell? ⟨w.heap.size, 3, none⟩ = some (.int .i64 p.inp) ∧ w'.cell? ⟨w.heap.size, 4, none⟩ = some (.int .i64 p.out)) ∧ w'.cell? ⟨b, off + k * 5, none⟩ = some (.slice OA ops.length oc) ∧ w'.cell? ⟨b, off + k * 5 + 1, none⟩ = some (.int .i64 tk) ∧ w'.cell? ⟨b, off + k * 5 + 2, none⟩ = some (.int .i64 ta) ∧ w'.cell? ⟨b, off + k * 5 + 3, none⟩ = some (.int .i64 ty) ∧ w'.cell? ⟨b, off + k * 5 + 4, none⟩ = some (.int .i64 tn)) := Lib.hid (fun w' hg => by
                          have hx := (hg.block _ (lt_of_blk HX1.out)).trans HX1.out
                          have hc : ∀ m, w'.cell? ⟨b, m, none⟩ = wr.cell? ⟨b, m, none⟩ := fun m => ((bch HB1.out hg).cell (p := ⟨b, m, none⟩) hb0).trans ((bch HB1.out HK2.out).cell (p := ⟨b, m, none⟩) hb0).symm
                          exact ⟨⟨(cell_of_blk hx 0).1, (cell_of_blk hx 1).1, (cell_of_blk hx 2).1, (cell_of_blk hx 3).1, (cell_of_blk hx 4).1⟩, (hc _).trans x0, (hc _).trans x1, (hc _).trans x2, (hc _).trans x3, (hc _).trans x4⟩)
                        clear hK2 x0 x1 x2 x3 x4 hOR
                        have hbw := HBC.out _ HK2.out
                        have c2 := hbw.1.2.2.1
                        clear hbw
                        go_wp2_with fail
                        clear c2
                        have HWR : Hid (Below w1.heap.size w1 wr) := Lib.hid HK2.out
                        go_loopw [4] (fun j wz => ∃ q : Nat, q ≤ ops.length ∧ j = .int .i64 q ∧ Below w1.heap.size w1 wz ∧ ∀ r, r < q → opP p (ops.getD r opNone)) (fun j _ => ops.length - (intOf j).toNat)
                        case atStart => exact ⟨0, by omega, rfl, HWR.out, fun q hq => by omega⟩
                        case round =>
                          obtain ⟨q, hq, rfl, hK5, hops⟩ := hrel
                          have HOPS := Lib.hid hops
                          have hbc5 := HBC.out _ hK5
                          have c2 := hbc5.1.2.2.1
                          have x0 := hbc5.2.1
                          by_cases hlt3 : q < ops.length
                          · obtain ⟨b2, off2, rfl, hb2, y0, y1, y2, y3, y4, y5⟩ := op_at (HOR.out.keep' (bch HB1.out HWR.out) (bch HB1.out hK5)) q hlt3
                            have hobad : ¬ opP p (ops.getD q opNone) → ¬ blkP p ⟨ops, tk, ta, ty, tn⟩ := fun h hm => h (hm.1 _ (getD_memI ops q opNone hlt3))
                            have honext : opP p (ops.getD q opNone) → ∀ r, r < q + 1 → opP p (ops.getD r opNone) := fun h r hr => by
                              rcases Nat.lt_or_ge r q with h3 | h3
                              · exact HOPS.out r h3
                              · obtain rfl : r = q := by omega
                                exact h
                            have HOBAD := Lib.hid hobad
                            have HONEXT := Lib.hid honext
                            have HOP := Lib.hid (fun W h1 => ref_op p AA ac (.slice (some ⟨b, off, none⟩) p.blocks.length bc) (ops.getD q opNone) ha W h1)
                            unfold opVal irVal at HOP
                            clear hobad honext hops hbc5
                            generalize ops.getD q opNone = op at *
                            obtain ⟨ok, od, oa, ob, oc3, oi⟩ := op
                            simp only at y0 y1 y2 y3 y4 y5 HOP
                            have q0 : (0 : Int) ≤ (q : Int) := by omega
                            have q1 : (q : Int) < (ops.length : Int) := by omega
                            have HW0 := Lib.hid hK5
                            have HS : Hid (∀ w', Below w1.heap.size w1 w' → (w'.cell? ⟨w.heap.size, 0, none⟩ = some (.int .i64 p.temps) ∧ w'.cell? ⟨w.heap.size, 1, none⟩ = some (.slice AA p.arrays.length ac) ∧ w'.cell? ⟨w.heap.size, 2, none⟩ = some (.slice (some ⟨b, off, none⟩) p.blocks.length bc) ∧ w'.cell? ⟨w.heap.size, 3, none⟩ = some (.int .i64 p.inp) ∧ w'.cell? ⟨w.heap.size, 4, none⟩ = some (.int .i64 p.out) ∧ w'.cell? ⟨b, off + k * 5, none⟩ = some (.slice (some ⟨b2, off2, none⟩) ops.length oc) ∧ w'.cell? ⟨b2, off2 + q * 6, none⟩ = some (.int .i64 ok) ∧ w'.cell? ⟨b2, off2 + q * 6 + 1, none⟩ = some (.int .i64 od) ∧ w'.cell? ⟨b2, off2 + q * 6 + 2, none⟩ = some (.int .i64 oa) ∧ w'.cell? ⟨b2, off2 + q * 6 + 3, none⟩ = some (.int .i64 ob) ∧ w'.cell? ⟨b2, off2 + q * 6 + 4, none⟩ = some (.int .i64 oc3) ∧ w'.cell? ⟨b2, off2 + q * 6 + 5, none⟩ = some (.int .i64 oi) ∧ Below w1.heap.size w1 w')) := Lib.hid (fun w' hg => by
                              obtain ⟨⟨a0, a1, a2, a3, a4⟩, a5, _⟩ := HBC.out w' hg
                              have hc : ∀ m, w'.cell? ⟨b2, m, none⟩ = wr.cell? ⟨b2, m, none⟩ := fun m => ((bch HB1.out hg).cell (p := ⟨b2, m, none⟩) hb2).trans ((bch HB1.out HW0.out).cell (p := ⟨b2, m, none⟩) hb2).symm
                              exact ⟨a0, a1, a2, a3, a4, a5, (hc _).trans y0, (hc _).trans y1, (hc _).trans y2, (hc _).trans y3, (hc _).trans y4, (hc _).trans y5, hg⟩)
                            have HAA : Hid (∀ W, Below w1.heap.size w1 W → SlRep arrEnc W W.heap.size (.slice AA p.arrays.length ac) p.arrays) := Lib.hid (fun W hg => HRA.out.next (bch HB1.out hg))
                            by_cases hop : opP p ⟨ok, od, oa, ob, oc3, oi⟩
                            · rw [decide_eq_true hop] at HOP
                              have HN := Lib.hid (HONEXT.out hop)
                              clear hop
                              go_wp2_with fail
                              go_region_held3 (fun w' => w'.cell? ⟨w.heap.size, 0, none⟩ = some (.int .i64 p.temps) ∧ w'.cell? ⟨w.heap.size, 1, none⟩ = some (.slice AA p.arrays.length ac) ∧ w'.cell? ⟨w.heap.size, 2, none⟩ = some (.slice (some ⟨b, off, none⟩) p.blocks.length bc) ∧ w'.cell? ⟨w.heap.size, 3, none⟩ = some (.int .i64 p.inp) ∧ w'.cell? ⟨w.heap.size, 4, none⟩ = some (.int .i64 p.out) ∧ w'.cell? ⟨b, off + k * 5, none⟩ = some (.slice (some ⟨b2, off2, none⟩) ops.length oc) ∧ w'.cell? ⟨b2, off2 + q * 6, none⟩ = some (.int .i64 ok) ∧ w'.cell? ⟨b2, off2 + q * 6 + 1, none⟩ = some (.int .i64 od) ∧ w'.cell? ⟨b2, off2 + q * 6 + 2, none⟩ = some (.int .i64 oa) ∧ w'.cell? ⟨b2, off2 + q * 6 + 3, none⟩ = some (.int .i64 ob) ∧ w'.cell? ⟨b2, off2 + q * 6 + 4, none⟩ = some (.int .i64 oc3) ∧ w'.cell? ⟨b2, off2 + q * 6 + 5, none⟩ = some (.int .i64 oi) ∧ Below w1.heap.size w1 w')
                                (exact HS.out _ (by first | assumption | exact bdr2 (by assumption)))
                                ((go_at_call 39; refine (HOP.out _ (HAA.out _ (by first | assumption | exact bdr2 (by assumption)))).mono ?_; rintro e w6 ⟨rfl, hb6⟩; have G := bch (by first | assumption | exact bdr2 (by assumption)) hb6))
                              have HG := Lib.hid G
                              clear G hb6
                              go_wp2_with fail
                              go_roundw
                              case rel => exact ⟨q + 1, by omega, by go_num, HG.out, HN.out⟩
                              case measure => simp [intOf]; omega
                            · rw [decide_eq_false hop] at HOP
                              have hR := HR2.out (HBAD.out (HOBAD.out hop))
                              subst hR
                              clear hop
                              go_wp2_with fail
                              go_region_held3 (fun w' => w'.cell? ⟨w.heap.size, 0, none⟩ = some (.int .i64 p.temps) ∧ w'.cell? ⟨w.heap.size, 1, none⟩ = some (.slice AA p.arrays.length ac) ∧ w'.cell? ⟨w.heap.size, 2, none⟩ = some (.slice (some ⟨b, off, none⟩) p.blocks.length bc) ∧ w'.cell? ⟨w.heap.size, 3, none⟩ = some (.int .i64 p.inp) ∧ w'.cell? ⟨w.heap.size, 4, none⟩ = some (.int .i64 p.out) ∧ w'.cell? ⟨b, off + k * 5, none⟩ = some (.slice (some ⟨b2, off2, none⟩) ops.length oc) ∧ w'.cell? ⟨b2, off2 + q * 6, none⟩ = some (.int .i64 ok) ∧ w'.cell? ⟨b2, off2 + q * 6 + 1, none⟩ = some (.int .i64 od) ∧ w'.cell? ⟨b2, off2 + q * 6 + 2, none⟩ = some (.int .i64 oa) ∧ w'.cell? ⟨b2, off2 + q * 6 + 3, none⟩ = some (.int .i64 ob) ∧ w'.cell? ⟨b2, off2 + q * 6 + 4, none⟩ = some (.int .i64 oc3) ∧ w'.cell? ⟨b2, off2 + q * 6 + 5, none⟩ = some (.int .i64 oi) ∧ Below w1.heap.size w1 w')
                                (exact HS.out _ (by first | assumption | exact bdr2 (by assumption)))
                                ((go_at_call 39; refine (HOP.out _ (HAA.out _ (by first | assumption | exact bdr2 (by assumption)))).mono ?_; rintro e w6 ⟨rfl, hb6⟩; have G := bch (by first | assumption | exact bdr2 (by assumption)) hb6))
                              have HG := Lib.hid G
                              clear G hb6
                              go_wp2_with fail
                              go_ret
                              exact ⟨rfl, bch HB1.out HG.out⟩
                          · obtain rfl : q = ops.length := by omega
                            have HTM := Lib.hid (fun W => ref_term p (.slice AA p.arrays.length ac) (some ⟨b, off, none⟩) bc ⟨tk, ta, ty, tn⟩ hf5 W)
                            unfold trmVal irVal at HTM
                            simp only at HTM
                            have HS : Hid (∀ w', Below w1.heap.size w1 w' → (w'.cell? ⟨w.heap.size, 0, none⟩ = some (.int .i64 p.temps) ∧ w'.cell? ⟨w.heap.size, 1, none⟩ = some (.slice AA p.arrays.length ac) ∧ w'.cell? ⟨w.heap.size, 2, none⟩ = some (.slice (some ⟨b, off, none⟩) p.blocks.length bc) ∧ w'.cell? ⟨w.heap.size, 3, none⟩ = some (.int .i64 p.inp) ∧ w'.cell? ⟨w.heap.size, 4, none⟩ = some (.int .i64 p.out) ∧ w'.cell? ⟨b, off + k * 5 + 1, none⟩ = some (.int .i64 tk) ∧ w'.cell? ⟨b, off + k * 5 + 2, none⟩ = some (.int .i64 ta) ∧ w'.cell? ⟨b, off + k * 5 + 3, none⟩ = some (.int .i64 ty) ∧ w'.cell? ⟨b, off + k * 5 + 4, none⟩ = some (.int .i64 tn) ∧ Below w1.heap.size w1 w')) := Lib.hid (fun w' hg => by
                              obtain ⟨⟨a0, a1, a2, a3, a4⟩, _, a5, a6, a7, a8⟩ := HBC.out w' hg
                              exact ⟨a0, a1, a2, a3, a4, a5, a6, a7, a8, hg⟩)
                            clear hops hbc5
                            by_cases htp : trmP p ⟨tk, ta, ty, tn⟩
                            · rw [decide_eq_true htp] at HTM
                              have HN := Lib.hid (HNEXT.out ⟨all_getD (opP p) ops opNone HOPS.out, htp⟩)
                              clear htp
                              go_wp2_with fail
                              go_region_held3 (fun w' => w'.cell? ⟨w.heap.size, 0, none⟩ = some (.int .i64 p.temps) ∧ w'.cell? ⟨w.heap.size, 1, none⟩ = some (.slice AA p.arrays.length ac) ∧ w'.cell? ⟨w.heap.size, 2, none⟩ = some (.slice (some ⟨b, off, none⟩) p.blocks.length bc) ∧ w'.cell? ⟨w.heap.size, 3, none⟩ = some (.int .i64 p.inp) ∧ w'.cell? ⟨w.heap.size, 4, none⟩ = some (.int .i64 p.out) ∧ w'.cell? ⟨b, off + k * 5 + 1, none⟩ = some (.int .i64 tk) ∧ w'.cell? ⟨b, off + k * 5 + 2, none⟩ = some (.int .i64 ta) ∧ w'.cell? ⟨b, off + k * 5 + 3, none⟩ = some (.int .i64 ty) ∧ w'.cell? ⟨b, off + k * 5 + 4, none⟩ = some (.int .i64 tn) ∧ Below w1.heap.size w1 w')
                                (exact HS.out _ (by first | assumption | exact bdr2 (by assumption)))
                                ((go_at_call 40; refine (HTM.out _).mono ?_; rintro e w6 ⟨rfl, hb6⟩; have G := bch (by first | assumption | exact bdr2 (by assumption)) hb6))
                              have HG := Lib.hid G
                              clear G hb6
                              go_wp2_with fail
                              go_roundw
                              case rel => exact ⟨k + 1, by omega, by go_num, HG.out, HN.out⟩
                              case measure => simp [intOf]; omega
                            · rw [decide_eq_false htp] at HTM
                              have hR := HR2.out (HBAD.out (fun h => htp h.2))
                              subst hR
                              clear htp
                              go_wp2_with fail
                              go_region_held3 (fun w' => w'.cell? ⟨w.heap.size, 0, none⟩ = some (.int .i64 p.temps) ∧ w'.cell? ⟨w.heap.size, 1, none⟩ = some (.slice AA p.arrays.length ac) ∧ w'.cell? ⟨w.heap.size, 2, none⟩ = some (.slice (some ⟨b, off, none⟩) p.blocks.length bc) ∧ w'.cell? ⟨w.heap.size, 3, none⟩ = some (.int .i64 p.inp) ∧ w'.cell? ⟨w.heap.size, 4, none⟩ = some (.int .i64 p.out) ∧ w'.cell? ⟨b, off + k * 5 + 1, none⟩ = some (.int .i64 tk) ∧ w'.cell? ⟨b, off + k * 5 + 2, none⟩ = some (.int .i64 ta) ∧ w'.cell? ⟨b, off + k * 5 + 3, none⟩ = some (.int .i64 ty) ∧ w'.cell? ⟨b, off + k * 5 + 4, none⟩ = some (.int .i64 tn) ∧ Below w1.heap.size w1 w')
                                (exact HS.out _ (by first | assumption | exact bdr2 (by assumption)))
                                ((go_at_call 40; refine (HTM.out _).mono ?_; rintro e w6 ⟨rfl, hb6⟩; have G := bch (by first | assumption | exact bdr2 (by assumption)) hb6))
                              have HG := Lib.hid G
                              clear G hb6
                              go_wp2_with fail
                              go_ret
                              exact ⟨rfl, bch HB1.out HG.out⟩
                      · obtain rfl : k = p.blocks.length := by omega
                        have hR := HR0.out ⟨HHEAD.out, HAE.out, all_getD (blkP p) p.blocks blkNone HALL.out⟩
                        subst hR
                        clear hall hK2 hxp
                        go_wp2_with fail
                        go_ret
                        exact ⟨rfl, bch HB1.out HK2.out⟩
            · have q5 : (p.out % 4 != 0) = true := by rw [bne_iff_ne]; exact i5
              have hR := HR2.out (fun h => by have h2 := h.1; unfold headP at h2; omega)
              subst hR
              go_wp2_with fail
              go_ret
              exact ⟨rfl, bch HB1.out HB2.out⟩
        · have q3 : (p.inp % 4 != 0) = true := by rw [bne_iff_ne]; exact i3
          have hR := HR2.out (fun h => by have h2 := h.1; unfold headP at h2; omega)
          subst hR
          go_wp2_with fail
          go_ret
          exact ⟨rfl, bch HB1.out HB2.out⟩
end Go.Proofs.Ythkobddggoojlaa
