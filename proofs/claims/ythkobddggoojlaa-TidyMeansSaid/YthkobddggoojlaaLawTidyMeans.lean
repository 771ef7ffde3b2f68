/- The Go function TidyMeans returns true on every input and leaves its arguments as they were. No condition. -/
import Derived.Test.YthkobddggoojlaaRows
import Derived.WalkKit
import Derived.ProofKit
import Derived.OpenShut
import Derived.Test.YthkobddggoojlaaLawKit
import Derived.SizedLaws
import Derived.Test.YthkobddggoojlaaTeG5e25
import Derived.Test.YthkobddggoojlaaTeG2ce13
import Derived.Test.YthkobddggoojlaaTeTdG
import Derived.Test.YthkobddggoojlaaTeG2e17
namespace Go.Proofs.Ythkobddggoojlaa.tidyMeans
open Go.ChangeShapes Go.WideShapes Go.ChangeAt Go.RowKit
set_option linter.unusedVariables false

theorem far (p : Ir) (av bv : Value) (input : ByteArray) (budget : Int) (h : budget < 0 ∨ (0 ≤ budget ∧ 3000 < budget)) (w : World) : Calls Try.prog 5 #[irVal p av bv, .string input, .int .i64 budget] w fun e w' => e = .returned (.bool true) ∧ Below w.heap.size w w' := by
  unfold irVal
  rcases h with h | ⟨h1, h⟩
  all_goals
    go_enter Try.func5, Try.ntmps5
    go_wp2_with fail
    refine (law23_lives _).mono ?_
    rintro e w2 ⟨rfl, hb2⟩
    go_wp2_with fail
    go_ret
    exact ⟨rfl, bch (bnew _ _) hb2⟩
set_option maxRecDepth 100000 in
set_option maxHeartbeats 8000000 in
theorem bad (p : Ir) (av bv : Value) (hf : p.fine) (input : ByteArray) (budget : Int) (h0 : 0 ≤ budget) (h1 : budget ≤ 3000) (he : irErr p ≠ 0) (w : World) (hI : IrRep w w.heap.size p av bv) : Calls Try.prog 5 #[irVal p av bv, .string input, .int .i64 budget] w fun e w' => e = .returned (.bool true) ∧ Below w.heap.size w w' := by
  have HC := Lib.hid (fun W h => ir_Check p av bv hf W h)
  have HCP := Lib.hid (fun W h => tidy_Tidy_bad p av bv hf he W h)
  have q : (irErr p != 0) = true := by rw [bne_iff_ne]; exact he
  have qe : (irErr p == irErr p) = true := by simp
  unfold irVal at HC HCP ⊢
  unfold PassPost irZero at HCP
  simp only [List.length_nil] at HCP
  generalize irErr p = fe at *
  have HX := Lib.hid (heap_alloc_new w (.cells #[.int .i64 p.temps, av, bv, .int .i64 p.inp, .int .i64 p.out] 25))
  have hb := bnew w (.cells #[.int .i64 p.temps, av, bv, .int .i64 p.inp, .int .i64 p.out] 25)
  have HIW := Lib.hid (hI.next hb)
  have HB := Lib.hid hb
  clear hI he hf hb
  go_enter Try.func5, Try.ntmps5
  go_wp2_with fail
  generalize w.alloc (.cells #[.int .i64 p.temps, av, bv, .int .i64 p.inp, .int .i64 p.out] 25) = w1 at *
  refine (HCP.out _ HIW.out).mono ?_
  rintro e w2 ⟨A, ac, C, bc, rfl, hIq, hb2⟩
  have hx2 := alloc_old ((hb2.block _ (lt_of_blk HX.out)).trans HX.out) (.cells #[.int .i64 0, .slice A 0 ac, .slice C 0 bc, .int .i64 0, .int .i64 0] 25)
  have hy2 := heap_alloc_new w2 (.cells #[.int .i64 0, .slice A 0 ac, .slice C 0 bc, .int .i64 0, .int .i64 0] 25)
  have HB2 := Lib.hid (bal (bch HB.out hb2) (.cells #[.int .i64 0, .slice A 0 ac, .slice C 0 bc, .int .i64 0, .int .i64 0] 25))
  have HI2 := Lib.hid ((HIW.out.next hb2).next (bnew w2 (.cells #[.int .i64 0, .slice A 0 ac, .slice C 0 bc, .int .i64 0, .int .i64 0] 25)))
  obtain ⟨c0, c1, c2, c3, c4, _⟩ := ir_cells_at hx2
  clear hx2 hIq hb2
  have HY := Lib.hid hy2
  clear hy2
  go_wp2_with fail
  generalize w2.alloc (.cells #[.int .i64 0, .slice A 0 ac, .slice C 0 bc, .int .i64 0, .int .i64 0] 25) = w3 at *
  refine (HC.out _ HI2.out).mono ?_
  rintro e w4 ⟨rfl, hb4⟩
  have d2 := (cell_of_blk ((hb4.block _ (lt_of_blk HY.out)).trans HY.out) 2).1
  have d2' : w4.cell? ⟨w2.heap.size, 2, none⟩ = some (.slice C 0 bc) := d2
  have HB4 := Lib.hid (bch HB2.out hb4)
  clear c0 c1 c2 c3 c4 d2 hb4
  go_wp2_with fail
  refine (law23_lives _).mono ?_
  rintro e w5 ⟨rfl, hb5⟩
  go_wp2_with fail
  go_ret
  exact ⟨rfl, bch HB4.out hb5⟩
set_option maxRecDepth 100000 in
set_option maxHeartbeats 8000000 in
theorem goodA (p : Ir) (av bv : Value) (hf : p.fine) (input : ByteArray) (hsz : input.size ≤ maxLen) (budget : Int) (h0 : 0 ≤ budget) (h1 : budget ≤ 3000) (he : irErr p = 0) (s0 : List Bool) (hs0 : TdIn (tdStr p.blocks) s0) (h20 : (irRun p input budget).2 = 20) (w : World) (hI : IrRep w w.heap.size p av bv) : Calls Try.prog 5 #[irVal p av bv, .string input, .int .i64 budget] w fun e w' => e = .returned (.bool true) ∧ Below w.heap.size w w' := by
  have HCP := Lib.hid (fun W h => tidy_Tidy p av bv hf he s0 hs0 W h)
  have HRP := Lib.hid (fun W h => ir_Run p av bv hf input hsz budget W h)
  have hqe := td_err he hs0
  have hqf := td_fine he hs0 hf
  generalize tdIr p s0 = q at *
  have HRQ := Lib.hid (fun av bv W h => ir_Run q av bv hqf input hsz budget W h)
  have HKQ := Lib.hid (fun av bv W h => ir_Check q av bv hqf W h)
  rw [hqe] at HKQ
  unfold irVal at HCP HRP HRQ HKQ ⊢
  unfold PassPost at HCP
  unfold RunPost at HRP HRQ
  generalize irRun p input budget = r1 at *
  obtain ⟨s1, e1⟩ := r1
  generalize irRun q input budget = r2 at *
  obtain ⟨s2, e2⟩ := r2
  obtain rfl : e1 = 20 := h20
  simp only at HRP HRQ
  have HX := Lib.hid (heap_alloc_new w (.cells #[.int .i64 p.temps, av, bv, .int .i64 p.inp, .int .i64 p.out] 25))
  have hb := bnew w (.cells #[.int .i64 p.temps, av, bv, .int .i64 p.inp, .int .i64 p.out] 25)
  have HIW := Lib.hid (hI.next hb)
  have HB := Lib.hid hb
  unfold maxLen at hsz
  clear hI he hf hb hqe hqf hs0
  go_enter Try.func5, Try.ntmps5
  go_wp2_with fail
  generalize w.alloc (.cells #[.int .i64 p.temps, av, bv, .int .i64 p.inp, .int .i64 p.out] 25) = w1 at *
  refine (HCP.out _ HIW.out).mono ?_
  rintro e w2 ⟨A, ac, C, bc, rfl, hIq, hb2⟩
  have HX3 := Lib.hid (alloc_old ((hb2.block _ (lt_of_blk HX.out)).trans HX.out) (.cells #[.int .i64 q.temps, .slice A q.arrays.length ac, .slice C q.blocks.length bc, .int .i64 q.inp, .int .i64 q.out] 25))
  have HY3 := Lib.hid (heap_alloc_new w2 (.cells #[.int .i64 q.temps, .slice A q.arrays.length ac, .slice C q.blocks.length bc, .int .i64 q.inp, .int .i64 q.out] 25))
  have hb3 := bnew w2 (.cells #[.int .i64 q.temps, .slice A q.arrays.length ac, .slice C q.blocks.length bc, .int .i64 q.inp, .int .i64 q.out] 25)
  have HB3 := Lib.hid (bch (bch HB.out hb2) hb3)
  have HI3 := Lib.hid ((HIW.out.next hb2).next hb3)
  have HQ3 := Lib.hid (hIq.next hb3)
  obtain ⟨c0, c1, c2, c3, c4, _⟩ := ir_cells_at HX3.out
  clear hIq hb2 hb3
  go_wp2_with fail
  generalize w2.alloc (.cells #[.int .i64 q.temps, .slice A q.arrays.length ac, .slice C q.blocks.length bc, .int .i64 q.inp, .int .i64 q.out] 25) = w3 at *
  refine (HRP.out _ HI3.out).mono ?_
  rintro e w4 ⟨rfl, hb4⟩
  have HY4 := Lib.hid ((hb4.block _ (lt_of_blk HY3.out)).trans HY3.out)
  have HB4 := Lib.hid (bch HB3.out hb4)
  have HQ4 := Lib.hid (IrRep.next HQ3.out hb4)
  clear c0 c1 c2 c3 c4 hb4
  obtain ⟨c0, c1, c2, c3, c4, _⟩ := ir_cells_at HY4.out
  go_wp2_with fail
  refine (HRQ.out _ _ _ HQ4.out).mono ?_
  rintro e w5 ⟨rfl, hb5⟩
  have HY5 := Lib.hid ((hb5.block _ (lt_of_blk HY4.out)).trans HY4.out)
  have HB5 := Lib.hid (bch HB4.out hb5)
  have HQ5 := Lib.hid (IrRep.next HQ4.out hb5)
  clear c0 c1 c2 c3 c4 hb5
  obtain ⟨c0, c1, c2, c3, c4, _⟩ := ir_cells_at HY5.out
  go_wp2_with fail
  refine (HKQ.out _ _ _ HQ5.out).mono ?_
  rintro e w8 ⟨rfl, hb8⟩
  have HB8 := Lib.hid (bch HB5.out hb8)
  clear c0 c1 c2 c3 c4 hb8
  go_wp2_with fail
  refine (law23_lives _).mono ?_
  rintro e w10 ⟨rfl, hb10⟩
  go_wp2_with fail
  go_ret
  exact ⟨rfl, bch HB8.out hb10⟩
set_option maxRecDepth 100000 in
set_option maxHeartbeats 8000000 in
theorem goodB (p : Ir) (av bv : Value) (hf : p.fine) (input : ByteArray) (hsz : input.size ≤ maxLen) (budget : Int) (h0 : 0 ≤ budget) (h1 : budget ≤ 3000) (he : irErr p = 0) (s0 : List Bool) (hs0 : TdIn (tdStr p.blocks) s0) (hrun : irRun (tdIr p s0) input budget = irRun p input budget) (hne : (irRun p input budget).2 ≠ 20) (w : World) (hI : IrRep w w.heap.size p av bv) : Calls Try.prog 5 #[irVal p av bv, .string input, .int .i64 budget] w fun e w' => e = .returned (.bool true) ∧ Below w.heap.size w w' := by
  have HCP := Lib.hid (fun W h => tidy_Tidy p av bv hf he s0 hs0 W h)
  have HRP := Lib.hid (fun W h => ir_Run p av bv hf input hsz budget W h)
  have hqe := td_err he hs0
  have hqf := td_fine he hs0 hf
  generalize tdIr p s0 = q at *
  have HRQ := Lib.hid (fun av bv W h => ir_Run q av bv hqf input hsz budget W h)
  have HKQ := Lib.hid (fun av bv W h => ir_Check q av bv hqf W h)
  rw [hqe] at HKQ
  rw [hrun] at HRQ
  unfold irVal at HCP HRP HRQ HKQ ⊢
  unfold PassPost at HCP
  unfold RunPost at HRP HRQ
  generalize irRun p input budget = r1 at *
  obtain ⟨s1, e1⟩ := r1
  simp only at HRP HRQ
  have qee : (e1 == e1) = true := by simp
  have qn : (e1 == 20) = false := by rw [beq_eq_false_iff_ne]; exact hne
  clear hne
  have HX := Lib.hid (heap_alloc_new w (.cells #[.int .i64 p.temps, av, bv, .int .i64 p.inp, .int .i64 p.out] 25))
  have hb := bnew w (.cells #[.int .i64 p.temps, av, bv, .int .i64 p.inp, .int .i64 p.out] 25)
  have HIW := Lib.hid (hI.next hb)
  have HB := Lib.hid hb
  unfold maxLen at hsz
  clear hI he hf hb hrun hqe hqf hs0
  go_enter Try.func5, Try.ntmps5
  go_wp2_with fail
  generalize w.alloc (.cells #[.int .i64 p.temps, av, bv, .int .i64 p.inp, .int .i64 p.out] 25) = w1 at *
  refine (HCP.out _ HIW.out).mono ?_
  rintro e w2 ⟨A, ac, C, bc, rfl, hIq, hb2⟩
  have HX3 := Lib.hid (alloc_old ((hb2.block _ (lt_of_blk HX.out)).trans HX.out) (.cells #[.int .i64 q.temps, .slice A q.arrays.length ac, .slice C q.blocks.length bc, .int .i64 q.inp, .int .i64 q.out] 25))
  have HY3 := Lib.hid (heap_alloc_new w2 (.cells #[.int .i64 q.temps, .slice A q.arrays.length ac, .slice C q.blocks.length bc, .int .i64 q.inp, .int .i64 q.out] 25))
  have hb3 := bnew w2 (.cells #[.int .i64 q.temps, .slice A q.arrays.length ac, .slice C q.blocks.length bc, .int .i64 q.inp, .int .i64 q.out] 25)
  have HB3 := Lib.hid (bch (bch HB.out hb2) hb3)
  have HI3 := Lib.hid ((HIW.out.next hb2).next hb3)
  have HQ3 := Lib.hid (hIq.next hb3)
  obtain ⟨c0, c1, c2, c3, c4, _⟩ := ir_cells_at HX3.out
  clear hIq hb2 hb3
  go_wp2_with fail
  generalize w2.alloc (.cells #[.int .i64 q.temps, .slice A q.arrays.length ac, .slice C q.blocks.length bc, .int .i64 q.inp, .int .i64 q.out] 25) = w3 at *
  refine (HRP.out _ HI3.out).mono ?_
  rintro e w4 ⟨rfl, hb4⟩
  have HY4 := Lib.hid ((hb4.block _ (lt_of_blk HY3.out)).trans HY3.out)
  have HB4 := Lib.hid (bch HB3.out hb4)
  have HQ4 := Lib.hid (IrRep.next HQ3.out hb4)
  clear c0 c1 c2 c3 c4 hb4
  obtain ⟨c0, c1, c2, c3, c4, _⟩ := ir_cells_at HY4.out
  go_wp2_with fail
  refine (HRQ.out _ _ _ HQ4.out).mono ?_
  rintro e w5 ⟨rfl, hb5⟩
  have HY5 := Lib.hid ((hb5.block _ (lt_of_blk HY4.out)).trans HY4.out)
  have HB5 := Lib.hid (bch HB4.out hb5)
  have HQ5 := Lib.hid (IrRep.next HQ4.out hb5)
  clear c0 c1 c2 c3 c4 hb5
  obtain ⟨c0, c1, c2, c3, c4, _⟩ := ir_cells_at HY5.out
  go_wp2_with fail
  refine (HKQ.out _ _ _ HQ5.out).mono ?_
  rintro e w8 ⟨rfl, hb8⟩
  have HB8 := Lib.hid (bch HB5.out hb8)
  clear c0 c1 c2 c3 c4 hb8
  go_wp2_with fail
  refine (law23_lives _).mono ?_
  rintro e w10 ⟨rfl, hb10⟩
  go_wp2_with fail
  go_ret
  exact ⟨rfl, bch HB8.out hb10⟩
set_option maxHeartbeats 8000000 in
theorem walk (p : Ir) (av bv : Value) (v0 : Value) (hv : v0 = irVal p av bv) (hf : p.fine) (input : ByteArray) (hsz : input.size ≤ maxLen) (budget : Int) (w : World) (hI : IrRep w w.heap.size p av bv) :
    Calls Try.prog 5 #[v0, .string input, .int .i64 budget] w fun e w' => e = .returned (.bool true) ∧ Below w.heap.size w w' := by
  subst hv
  by_cases hb : 0 ≤ budget ∧ budget ≤ 3000
  · by_cases he : irErr p = 0
    · obtain ⟨s0, hs0⟩ := tdIn_ex (tdStr p.blocks)
      by_cases h20 : (irRun p input budget).2 = 20
      · exact goodA p av bv hf input hsz budget hb.1 hb.2 he s0 hs0 h20 w hI
      · exact goodB p av bv hf input hsz budget hb.1 hb.2 he s0 hs0 ((td_run he hs0 input budget hb.1 hb.2).resolve_left h20) h20 w hI
    · exact bad p av bv hf input budget hb.1 hb.2 he w hI
  · exact far p av bv input budget (by omega) w

theorem own : ownKnob Try.prog.godebug = none := by kernel_rfl
set_option maxRecDepth 100000 in
theorem lifted (os : Os) (started : os.Started) (H : Type) (enc : TypeId × Value → H) :
    ReturnsInHanded {} Try.checked os 5 .any (Rows.tidyMeansSpec.pre6 enc Try.prog Try.f5 Rows.tidyMeansRow.domain false) (Rows.tidyMeansSpec.post enc Try.prog Try.f5 false true false false) := by
  refine returnsInHanded_of_change_sized (C := Try.checked) own started (by kernel_rfl) Try.func5
    (ChangeSpec.witness6 (enc := enc) (C := Try.checked) false ⟨#[], #[.agg #[.int .i64 0, .slice none 0 0, .slice none 0 0, .int .i64 0, .int .i64 0], .string ⟨#[]⟩, .int .i64 0], []⟩ 8 (by kernel_rfl) (by kernel_rfl) (by kernel_rfl) (by kernel_rfl)) ?_
  intro W base args ds gs before hval0 hW hcnd hsz _
  have hval : ∀ (j : Nat) t v, Try.f5.params[j]? = some t → args[j]? = some v → Value.okWide Try.prog W .any base t v := hval0
  have hW' := hW
  obtain ⟨p, q, hA0, hV, rfl, hfz, hnd⟩ := hW
  have hA : DataW.TrodAll enc Try.prog W 0 (fun _ => true) true Try.f5.params.toList args.toList ds p := hA0
  rw [Try.params5] at hA hval
  obtain ⟨v0, vs0, d0, ds0, p0, q0, hargs, rfl, rfl, h0, r0⟩ := trodAll_cons hA
  obtain ⟨v1, vs1, d1, ds1, p1, q1, rfl, rfl, rfl, h1, r1⟩ := trodAll_cons r0
  obtain ⟨v2, vs2, d2, ds2, p2, q2, rfl, rfl, rfl, h2, r2⟩ := trodAll_cons r1
  obtain ⟨rfl, rfl, rfl⟩ := trodAll_nil r2
  obtain rfl : args = #[v0, v1, v2] := by cases args; simp_all
  obtain ⟨rfl, rfl⟩ := trodVars_none hV
  clear hA0 hval0
  obtain ⟨p, av, bv, hv, hI, hf⟩ := open_ir (hval 0 25 v0 rfl rfl) h0 (fun x hx => by simpa using hW'.lt x (by simp [hx])) (weights_of hsz 0 rfl rfl)
  obtain ⟨input, rfl, rfl, rfl, w1⟩ := Go.ChangeMaps.open_string Try.underlying9 (hval 1 9 v1 rfl rfl) h1
  obtain ⟨budget, rfl, rfl, rfl, w2⟩ := open_int Try.underlying3 (hval 2 3 v2 rfl rfl) h2
  refine (walk p av bv v0 hv hf input w1 budget W hI).mono fun e W' ⟨he, hg⟩ => ?_
  subst he
  exact ⟨_, rfl, law_post (by kernel_rfl) (by kernel_rfl) rfl (by kernel_rfl) Try.underlying4 rfl hW' hg⟩

theorem proved : Rows.TidyMeansSaid :=
  OpenClaim.holds_of_wide 5 Try.f5 rfl rfl rfl rfl rfl rfl rfl ⟨rfl, rfl, rfl, rfl, rfl⟩ rfl rfl rfl rfl rfl (by kernel_rfl) Try.func5 (by kernel_rfl)
    (of_decide_eq_true (by kernel_rfl)) (by unfold Func.isWrapper; first | (rw [if_pos (by decide +kernel)]; kernel_rfl) | (rw [if_neg (by decide +kernel)]; exact ⟨rfl, rfl⟩))
    (fun os started H enc _ => lifted os started H enc)
#print axioms proved
end Go.Proofs.Ythkobddggoojlaa.tidyMeans
