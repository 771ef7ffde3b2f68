/- The Go function TidyTells returns true on every input and leaves its arguments as they were. No condition. -/
import Derived.Test.YthkobddggoojlaaRows
import Derived.WalkKit
import Derived.ProofKit
import Derived.OpenShut
import Derived.Test.YthkobddggoojlaaLawKit
import Derived.SizedLaws
import Derived.Test.YthkobddggoojlaaTeG5e25
import Derived.Test.YthkobddggoojlaaTeSame
import Derived.Test.YthkobddggoojlaaTeG2e17
namespace Go.Proofs.Ythkobddggoojlaa.tidyTells
open Go.ChangeShapes Go.WideShapes Go.ChangeAt Go.RowKit
set_option linter.unusedVariables false

theorem both (p : Ir) (av bv : Value) (hf : p.fine) : ∃ R er, (∀ W, IrRep W W.heap.size p av bv → Calls Try.prog 8 #[irVal p av bv] W (PassPost R er W)) ∧ (∀ W, IrRep W W.heap.size p av bv → Calls Try.prog 9 #[irVal p av bv] W (PassPost R er W)) ∧ R.fine := by
  by_cases he : irErr p = 0
  · obtain ⟨s0, hs0⟩ := tdIn_ex (tdStr p.blocks)
    exact ⟨tdIr p s0, 0, fun W h => tidy_Tidy p av bv hf he s0 hs0 W h, fun W h => ref23_Tidy p av bv hf he s0 hs0 W h, td_fine he hs0 hf⟩
  · refine ⟨irZero, irErr p, fun W h => tidy_Tidy_bad p av bv hf he W h, fun W h => ref23_Tidy_bad p av bv hf he W h, ?_⟩
    refine ⟨intR_small 0 (by decide) (by decide), intR_small 0 (by decide) (by decide), intR_small 0 (by decide) (by decide), by unfold irZero; simp, by unfold irZero; simp, fun x hx => by unfold irZero at hx; simp at hx, fun x hx => by unfold irZero at hx; simp at hx⟩
set_option maxHeartbeats 8000000 in
theorem walk (p : Ir) (av bv : Value) (v0 : Value) (hv : v0 = irVal p av bv) (hf : p.fine) (w : World) (hI : IrRep w w.heap.size p av bv) :
    Calls Try.prog 3 #[v0] w fun e w' => e = .returned (.bool true) ∧ Below w.heap.size w w' := by
  subst hv
  obtain ⟨R, er, HCP, HRP, hRf⟩ := both p av bv hf
  have HSM := Lib.hid (fun a b c d W h1 h2 => ref17_Same R hRf a b c d W h1 h2)
  have HCP := Lib.hid HCP
  have HRP := Lib.hid HRP
  have HFW := Lib.hid (fun W h => law23_few p av bv W h)
  have HLV := Lib.hid (fun W => law23_lives W)
  unfold PassPost at HCP HRP
  unfold FewPost at HFW
  unfold irVal at *
  have HX := Lib.hid (heap_alloc_new w (.cells #[.int .i64 p.temps, av, bv, .int .i64 p.inp, .int .i64 p.out] 25))
  have hb := bnew w (.cells #[.int .i64 p.temps, av, bv, .int .i64 p.inp, .int .i64 p.out] 25)
  have HIW := Lib.hid (hI.next hb)
  have HB := Lib.hid hb
  have qe : (er == er) = true := by simp
  obtain ⟨rt, ra, rb, ri, ro⟩ := R
  simp only at HCP HRP HSM
  clear hI hf hb hRf
  go_enter Try.func3, Try.ntmps3
  go_wp2_with fail
  generalize w.alloc (.cells #[.int .i64 p.temps, av, bv, .int .i64 p.inp, .int .i64 p.out] 25) = w1 at *
  refine (HFW.out _ HIW.out).mono ?_
  rintro e w2 ⟨⟨fb, rfl⟩, hb2⟩
  have HX2 := Lib.hid ((hb2.block _ (lt_of_blk HX.out)).trans HX.out)
  have HB2 := Lib.hid (bch HB.out hb2)
  have HI2 := Lib.hid (HIW.out.next hb2)
  obtain ⟨c0, c1, c2, c3, c4, _⟩ := ir_cells_at HX2.out
  clear hb2
  cases fb with
  | false =>
    go_wp2_with fail
    refine (HLV.out _).mono ?_
    rintro e w3 ⟨rfl, hb3⟩
    go_wp2_with fail
    go_ret
    exact ⟨rfl, bch HB2.out hb3⟩
  | true =>
    go_wp2_with fail
    refine (HCP.out _ HI2.out).mono ?_
    rintro e w3 ⟨A, ac, C, bc, rfl, hIq, hb3⟩
    have hbn := bal hb3 (.cells #[.int .i64 rt, .slice A ra.length ac, .slice C rb.length bc, .int .i64 ri, .int .i64 ro] 25)
    have HX4 := Lib.hid ((hbn.block _ (lt_of_blk HX2.out)).trans HX2.out)
    have HY4 := Lib.hid (heap_alloc_new w3 (.cells #[.int .i64 rt, .slice A ra.length ac, .slice C rb.length bc, .int .i64 ri, .int .i64 ro] 25))
    have HB4 := Lib.hid (bch HB2.out hbn)
    have HI4 := Lib.hid (HI2.out.next hbn)
    have HQ4 := Lib.hid (hIq.next (bnew w3 (.cells #[.int .i64 rt, .slice A ra.length ac, .slice C rb.length bc, .int .i64 ri, .int .i64 ro] 25)))
    clear hIq hb3 hbn c0 c1 c2 c3 c4
    go_upto_region 4 with (fail)
    generalize w3.alloc (.cells #[.int .i64 rt, .slice A ra.length ac, .slice C rb.length bc, .int .i64 ri, .int .i64 ro] 25) = w4 at *
    obtain ⟨c0, c1, c2, c3, c4, _⟩ := ir_cells_at HX4.out
    go_wp2_with fail
    refine (HRP.out _ HI4.out).mono ?_
    rintro e w5 ⟨D, dc, E, ec, rfl, hIq, hb5⟩
    have hbn := bal hb5 (.cells #[.int .i64 rt, .slice D ra.length dc, .slice E rb.length ec, .int .i64 ri, .int .i64 ro] 25)
    have HY6 := Lib.hid ((hbn.block _ (lt_of_blk HY4.out)).trans HY4.out)
    have HZ6 := Lib.hid (heap_alloc_new w5 (.cells #[.int .i64 rt, .slice D ra.length dc, .slice E rb.length ec, .int .i64 ri, .int .i64 ro] 25))
    have HB6 := Lib.hid (bch HB4.out hbn)
    have HQ6 := Lib.hid (HQ4.out.next hbn)
    have HR6 := Lib.hid (hIq.next (bnew w5 (.cells #[.int .i64 rt, .slice D ra.length dc, .slice E rb.length ec, .int .i64 ri, .int .i64 ro] 25)))
    clear hIq hb5 hbn c0 c1 c2 c3 c4
    go_upto_region 5 with (fail)
    generalize w5.alloc (.cells #[.int .i64 rt, .slice D ra.length dc, .slice E rb.length ec, .int .i64 ri, .int .i64 ro] 25) = w6 at *
    obtain ⟨c0, c1, c2, c3, c4, _⟩ := ir_cells_at HY6.out
    obtain ⟨d0, d1, d2, d3, d4, _⟩ := ir_cells_at HZ6.out
    go_wp2_with fail
    refine (HSM.out _ _ _ _ _ HQ6.out HR6.out).mono ?_
    rintro e w7 ⟨rfl, hb7⟩
    have HB7 := Lib.hid (bch HB6.out hb7)
    clear hb7 c0 c1 c2 c3 c4 d0 d1 d2 d3 d4
    go_wp2_with fail
    refine (HLV.out _).mono ?_
    rintro e w8 ⟨rfl, hb8⟩
    go_wp2_with fail
    go_ret
    exact ⟨rfl, bch HB7.out hb8⟩

theorem own : ownKnob Try.prog.godebug = none := by kernel_rfl
set_option maxRecDepth 100000 in
theorem lifted (os : Os) (started : os.Started) (H : Type) (enc : TypeId × Value → H) :
    ReturnsInHanded {} Try.checked os 3 .any (Rows.tidyTellsSpec.pre6 enc Try.prog Try.f3 Rows.tidyTellsRow.domain false) (Rows.tidyTellsSpec.post enc Try.prog Try.f3 false true false false) := by
  refine returnsInHanded_of_change_sized (C := Try.checked) own started (by kernel_rfl) Try.func3
    (ChangeSpec.witness6 (enc := enc) (C := Try.checked) false ⟨#[], #[.agg #[.int .i64 0, .slice none 0 0, .slice none 0 0, .int .i64 0, .int .i64 0]], []⟩ 8 (by kernel_rfl) (by kernel_rfl) (by kernel_rfl) (by kernel_rfl)) ?_
  intro W base args ds gs before hval0 hW hcnd hsz _
  have hval : ∀ (j : Nat) t v, Try.f3.params[j]? = some t → args[j]? = some v → Value.okWide Try.prog W .any base t v := hval0
  have hW' := hW
  obtain ⟨p, q, hA0, hV, rfl, hfz, hnd⟩ := hW
  have hA : DataW.TrodAll enc Try.prog W 0 (fun _ => true) true Try.f3.params.toList args.toList ds p := hA0
  rw [Try.params3] at hA hval
  obtain ⟨v0, vs0, d0, ds0, p0, q0, hargs, rfl, rfl, h0, r0⟩ := trodAll_cons hA
  obtain ⟨rfl, rfl, rfl⟩ := trodAll_nil r0
  obtain rfl : args = #[v0] := by cases args; simp_all
  obtain ⟨rfl, rfl⟩ := trodVars_none hV
  clear hA0 hval0
  obtain ⟨p, av, bv, hv, hI, hf⟩ := open_ir (hval 0 25 v0 rfl rfl) h0 (fun x hx => by simpa using hW'.lt x (by simp [hx])) (weights_of hsz 0 rfl rfl)
  refine (walk p av bv v0 hv hf W hI).mono fun e W' ⟨he, hg⟩ => ?_
  subst he
  exact ⟨_, rfl, law_post (by kernel_rfl) (by kernel_rfl) rfl (by kernel_rfl) Try.underlying4 rfl hW' hg⟩

theorem proved : Rows.TidyTellsSaid :=
  OpenClaim.holds_of_wide 3 Try.f3 rfl rfl rfl rfl rfl rfl rfl ⟨rfl, rfl, rfl, rfl, rfl⟩ rfl rfl rfl rfl rfl (by kernel_rfl) Try.func3 (by kernel_rfl)
    (of_decide_eq_true (by kernel_rfl)) (by unfold Func.isWrapper; first | (rw [if_pos (by decide +kernel)]; kernel_rfl) | (rw [if_neg (by decide +kernel)]; exact ⟨rfl, rfl⟩))
    (fun os started H enc _ => lifted os started H enc)
#print axioms proved
end Go.Proofs.Ythkobddggoojlaa.tidyTells
