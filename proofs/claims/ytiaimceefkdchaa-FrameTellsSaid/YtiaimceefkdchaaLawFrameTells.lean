/- The Go function FrameTells returns true on every input and leaves its arguments as they were. No condition. -/
import Derived.Test.YtiaimceefkdchaaRows
import Derived.WalkKit
import Derived.ProofKit
import Derived.OpenShut
import Derived.Test.YtiaimceefkdchaaLawKit
import Derived.SizedLaws
import Derived.Test.YtiaimceefkdchaaRefOf
import Derived.Test.YtiaimceefkdchaaFrameT
namespace Go.Proofs.Ytiaimceefkdchaa.frameTells
open Go.ChangeShapes Go.WideShapes Go.ChangeAt Go.RowKit
set_option linter.unusedVariables false

theorem fr_cells_at {w : World} {g : Nat} {i s : Int} {a : Value} (h : w.heap[g]? = some (.cells #[.int .i64 i, a, .int .i64 s] 28 (0, 0))) :
    w.cell? ⟨g, 0, none⟩ = some (.int .i64 i) ∧ w.cell? ⟨g, 1, none⟩ = some a ∧ w.cell? ⟨g, 2, none⟩ = some (.int .i64 s) :=
  ⟨(cell_of_blk h 0).1, (cell_of_blk h 1).1, (cell_of_blk h 2).1⟩
set_option maxHeartbeats 8000000 in
theorem walk (p : Ir) (av bv : Value) (v0 : Value) (hv : v0 = irVal p av bv) (hf : p.fine) (w : World) (hI : IrRep w w.heap.size p av bv) :
    Calls Try.prog 4 #[v0] w fun e w' => e = .returned (.bool true) ∧ Below w.heap.size w w' := by
  subst hv
  have HOF := Lib.hid (fun W h => frame_Of p av bv hf W h)
  have HRF := Lib.hid (fun W h => ref26_Of p av bv hf W h)
  have HI0 := Lib.hid hI
  have HSZ := Lib.hid (fun im sz A n c W => frame_Sizes p av bv im sz A n c W)
  have hlen := frLay_len p
  have HLV := Lib.hid (fun W => law26_lives W)
  unfold FrPost at HOF HRF
  unfold irVal frCells at *
  generalize (frLay p).image = im at *
  generalize (frLay p).size = sz at *
  generalize (frLay p).arrays = ls at *
  generalize frErr p = fe at *
  clear hI
  have HLEN := Lib.hid hlen
  have HX1 := Lib.hid (heap_alloc_new w (.cells #[.int .i64 p.temps, av, bv, .int .i64 p.inp, .int .i64 p.out] 25))
  go_enter Try.func4, Try.ntmps4
  go_wp2_with fail
  refine (HOF.out _ (HI0.out.next (bnew _ _))).mono ?_
  rintro e w2 ⟨fv, rfl, hb, ho⟩
  obtain ⟨A, ca, rfl⟩ := own_len ho
  have HA := Lib.hid (ints_own ho)
  have HX2 := Lib.hid ((hb.block w.heap.size (by simp)).trans HX1.out)
  have HB2 := Lib.hid (bch (bnew _ _) hb)
  have hx3 := ((bnew w2 (.cells #[.int .i64 im, .slice A ls.length ca, .int .i64 sz] 28)).block _ (lt_of_blk HX2.out)).trans HX2.out
  have hy3 := heap_alloc_new w2 (.cells #[.int .i64 im, .slice A ls.length ca, .int .i64 sz] 28)
  have ha3 := HA.out.below (bnew w2 (.cells #[.int .i64 im, .slice A ls.length ca, .int .i64 sz] 28))
  have hb3 := bal HB2.out (.cells #[.int .i64 im, .slice A ls.length ca, .int .i64 sz] 28)
  clear hb ho hlen
  go_upto_region 2 with (fail)
  generalize w2.alloc (.cells #[.int .i64 im, .slice A ls.length ca, .int .i64 sz] 28) = w3 at *
  have HX3 := Lib.hid hx3
  have HY3 := Lib.hid hy3
  have HA3 := Lib.hid ha3
  have HB3 := Lib.hid hb3
  have HI3 := Lib.hid (HI0.out.next hb3)
  obtain ⟨c0, c1, c2, c3, c4, _⟩ := ir_cells_at hx3
  clear hx3 hy3 ha3 hb3
  go_wp2_with fail
  refine (HRF.out _ HI3.out).mono ?_
  rintro e w4 ⟨fv, rfl, hb, ho⟩
  obtain ⟨B, cb, rfl⟩ := own_len ho
  have HBI := Lib.hid (ints_own ho)
  have HX4 := Lib.hid ((hb.block w.heap.size (lt_of_blk HX3.out)).trans HX3.out)
  have HY4 := Lib.hid ((hb.block _ (lt_of_blk HY3.out)).trans HY3.out)
  have HB4 := Lib.hid (bch HB3.out hb)
  have HA4 := Lib.hid (HA3.out.below hb)
  have hbn := bnew w4 (.cells #[.int .i64 im, .slice B ls.length cb, .int .i64 sz] 28)
  have hx5 := (hbn.block _ (lt_of_blk HX4.out)).trans HX4.out
  have hy5 := (hbn.block _ (lt_of_blk HY4.out)).trans HY4.out
  have hz5 := heap_alloc_new w4 (.cells #[.int .i64 im, .slice B ls.length cb, .int .i64 sz] 28)
  have ha5 := HA4.out.below hbn
  have hi5 := HBI.out.below hbn
  have hb5 := bal HB4.out (.cells #[.int .i64 im, .slice B ls.length cb, .int .i64 sz] 28)
  clear hb ho c0 c1 c2 c3 c4 hbn
  go_upto_region 3 with (fail)
  generalize w4.alloc (.cells #[.int .i64 im, .slice B ls.length cb, .int .i64 sz] 28) = w5 at *
  have HX5 := Lib.hid hx5
  have HY5 := Lib.hid hy5
  have HZ5 := Lib.hid hz5
  have HA5 := Lib.hid ha5
  have HI5 := Lib.hid hi5
  have HB5 := Lib.hid hb5
  obtain ⟨c0, c1, c2, c3, c4, _⟩ := ir_cells_at hx5
  obtain ⟨d0, d1, d2⟩ := fr_cells_at hy5
  clear hx5 hy5 hz5 ha5 hi5 hb5
  go_wp2_with fail
  refine (HSZ.out _ _ _ _ _ _).mono ?_
  rintro e w6 ⟨rfl, hb6⟩
  have hbn := bal hb6 (.cells #[.int .i64 p.inp, .int .i64 p.out, .int .i64 sz] 41)
  have hx7 := (hbn.block _ (lt_of_blk HX5.out)).trans HX5.out
  have hy7 := (hbn.block _ (lt_of_blk HY5.out)).trans HY5.out
  have hz7 := (hbn.block _ (lt_of_blk HZ5.out)).trans HZ5.out
  have hs7 := heap_alloc_new w6 (.cells #[.int .i64 p.inp, .int .i64 p.out, .int .i64 sz] 41)
  have ha7 := HA5.out.below hbn
  have hi7 := HI5.out.below hbn
  have hb7 := bch HB5.out hbn
  clear hbn hb6 c0 c1 c2 c3 c4 d0 d1 d2
  go_upto_region 4 with (fail)
  generalize w6.alloc (.cells #[.int .i64 p.inp, .int .i64 p.out, .int .i64 sz] 41) = w7 at *
  have HX7 := Lib.hid hx7
  have HZ7 := Lib.hid hz7
  have HS7 := Lib.hid hs7
  have HA7 := Lib.hid ha7
  have HI7 := Lib.hid hi7
  have HB7 := Lib.hid hb7
  obtain ⟨c0, c1, c2⟩ := fr_cells_at hy7
  obtain ⟨d0, d1, d2⟩ := fr_cells_at hz7
  clear hx7 hy7 hz7 hs7 ha7 hi7 hb7
  go_wp2_with fail
  refine (ref26_Same im sz ls A B ca cb _ HA7.out HI7.out HLEN.out).mono ?_
  rintro e w8 ⟨rfl, hb8⟩
  obtain ⟨f0, f1, f2, f3, f4, _⟩ := ir_cells_at ((hb8.block _ (lt_of_blk HX7.out)).trans HX7.out)
  obtain ⟨g0, g1, g2⟩ := fr_cells_at ((hb8.block _ (lt_of_blk HZ7.out)).trans HZ7.out)
  have hs8 := (hb8.block _ (lt_of_blk HS7.out)).trans HS7.out
  have s0 : w8.cell? ⟨w6.heap.size, 0, none⟩ = some (.int .i64 p.inp) := (cell_of_blk hs8 0).1
  have s1 : w8.cell? ⟨w6.heap.size, 1, none⟩ = some (.int .i64 p.out) := (cell_of_blk hs8 1).1
  have s2 : w8.cell? ⟨w6.heap.size, 2, none⟩ = some (.int .i64 sz) := (cell_of_blk hs8 2).1
  have HB8 := Lib.hid (bch HB7.out hb8)
  have q1 : (fe == fe) = true := by simp
  clear hb8 hs8 c0 c1 c2 d0 d1 d2
  go_wp2_with fail
  refine (HLV.out _).mono ?_
  rintro e w9 ⟨rfl, hb9⟩
  go_wp2_with fail
  go_ret
  exact ⟨rfl, bch HB8.out hb9⟩

theorem own : ownKnob Try.prog.godebug = none := by kernel_rfl
set_option maxRecDepth 100000 in
theorem lifted (os : Os) (started : os.Started) (H : Type) (enc : TypeId × Value → H) :
    ReturnsInHanded {} Try.checked os 4 .any (Rows.frameTellsSpec.pre6 enc Try.prog Try.f4 Rows.frameTellsRow.domain false) (Rows.frameTellsSpec.post enc Try.prog Try.f4 false true false false) := by
  refine returnsInHanded_of_change_sized (C := Try.checked) own started (by kernel_rfl) Try.func4
    (ChangeSpec.witness6 (enc := enc) (C := Try.checked) false ⟨#[], #[.agg #[.int .i64 0, .slice none 0 0, .slice none 0 0, .int .i64 0, .int .i64 0]], []⟩ 8 (by kernel_rfl) (by kernel_rfl) (by kernel_rfl) (by kernel_rfl)) ?_
  intro W base args ds gs before hval0 hW hcnd hsz _
  have hval : ∀ (j : Nat) t v, Try.f4.params[j]? = some t → args[j]? = some v → Value.okWide Try.prog W .any base t v := hval0
  have hW' := hW
  obtain ⟨p, q, hA0, hV, rfl, hfz, hnd⟩ := hW
  have hA : DataW.TrodAll enc Try.prog W 0 (fun _ => true) true Try.f4.params.toList args.toList ds p := hA0
  rw [Try.params4] at hA hval
  obtain ⟨v0, vs0, d0, ds0, p0, q0, hargs, rfl, rfl, h0, r0⟩ := trodAll_cons hA
  obtain ⟨rfl, rfl, rfl⟩ := trodAll_nil r0
  obtain rfl : args = #[v0] := by cases args; simp_all
  obtain ⟨rfl, rfl⟩ := trodVars_none hV
  clear hA0 hval0
  obtain ⟨p, av, bv, hv, hI, hf⟩ := open_ir (hval 0 25 v0 rfl rfl) h0 (fun x hx => by simpa using hW'.lt x (by simp [hx])) (weights_of hsz 0 rfl rfl)
  refine (walk p av bv v0 hv hf W hI).mono fun e W' ⟨he, hg⟩ => ?_
  subst he
  exact ⟨_, rfl, law_post (by kernel_rfl) (by kernel_rfl) rfl (by kernel_rfl) Try.underlying4 rfl hW' hg⟩

theorem proved : Rows.FrameTellsSaid :=
  OpenClaim.holds_of_wide 4 Try.f4 rfl rfl rfl rfl rfl rfl rfl ⟨rfl, rfl, rfl, rfl, rfl⟩ rfl rfl rfl rfl rfl (by kernel_rfl) Try.func4 (by kernel_rfl)
    (of_decide_eq_true (by kernel_rfl)) (by unfold Func.isWrapper; first | (rw [if_pos (by decide +kernel)]; kernel_rfl) | (rw [if_neg (by decide +kernel)]; exact ⟨rfl, rfl⟩))
    (fun os started H enc _ => lifted os started H enc)
#print axioms proved
end Go.Proofs.Ytiaimceefkdchaa.frameTells
