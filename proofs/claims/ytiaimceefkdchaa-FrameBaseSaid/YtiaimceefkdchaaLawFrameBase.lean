/- The Go function FrameBase returns true on every input and leaves its arguments as they were. No condition. -/
import Derived.Test.YtiaimceefkdchaaRows
import Derived.WalkKit
import Derived.ProofKit
import Derived.OpenShut
import Derived.Test.YtiaimceefkdchaaLawKit
import Derived.SizedLaws
import Derived.Test.YtiaimceefkdchaaFrameL
namespace Go.Proofs.Ytiaimceefkdchaa.frameBase
open Go.ChangeShapes Go.WideShapes Go.ChangeAt Go.RowKit
set_option linter.unusedVariables false

set_option maxHeartbeats 8000000 in
theorem walk (t : Int) (a : Arr) (v1 : Value) (hv1 : v1 = arrVal a) (rail : Int) (w : World) :
    Calls Try.prog 5 #[.int .i64 t, v1, .int .i64 rail] w fun e w' => e = .returned (.bool true) ∧ Below w.heap.size w w' := by
  subst hv1
  obtain ⟨x, l, k, o⟩ := a
  have HT1 := Lib.hid (fun W => frame_Temp t W)
  have HT2 := Lib.hid (fun W => ref26_Temp t W)
  have HB1 := Lib.hid (fun W => frame_Base ⟨x, l, k, o⟩ rail W)
  have HB2 := Lib.hid (fun W => ref26_Base ⟨x, l, k, o⟩ rail W)
  have HLV := Lib.hid (fun W => law26_lives W)
  unfold arrVal at *
  simp only at HB1 HB2 ⊢
  generalize fTemp t = ft at *
  generalize fBase k rail = fb at *
  go_enter Try.func5, Try.ntmps5
  have hs1 : (w.alloc (.cells #[.int .i64 x, .int .i64 l, .int .i64 k, .int .i64 o] 36)).heap.size = w.heap.size + 1 := by simp
  have hx1 := heap_alloc_new w (.cells #[.int .i64 x, .int .i64 l, .int .i64 k, .int .i64 o] 36)
  have hb1 := bnew w (.cells #[.int .i64 x, .int .i64 l, .int .i64 k, .int .i64 o] 36)
  go_wp2_with fail
  generalize w.alloc (.cells #[.int .i64 x, .int .i64 l, .int .i64 k, .int .i64 o] 36) = w1 at *
  have HX1 := Lib.hid hx1
  have HBW := Lib.hid hb1
  have HS : Hid (∀ w', Below w1.heap.size w1 w' → (w'.cell? ⟨w.heap.size, 0, none⟩ = some (.int .i64 x) ∧ w'.cell? ⟨w.heap.size, 1, none⟩ = some (.int .i64 l) ∧ w'.cell? ⟨w.heap.size, 2, none⟩ = some (.int .i64 k) ∧ w'.cell? ⟨w.heap.size, 3, none⟩ = some (.int .i64 o) ∧ Below w1.heap.size w1 w')) := Lib.hid (fun w' hg => by
    have hx := (hg.block w.heap.size (by omega)).trans HX1.out
    exact ⟨(cell_of_blk hx 0).1, (cell_of_blk hx 1).1, (cell_of_blk hx 2).1, (cell_of_blk hx 3).1, hg⟩)
  have hw0 := Below.refl w1.heap.size w1
  clear hx1 hb1
  go_region_held3 (fun w' => w'.cell? ⟨w.heap.size, 0, none⟩ = some (.int .i64 x) ∧ w'.cell? ⟨w.heap.size, 1, none⟩ = some (.int .i64 l) ∧ w'.cell? ⟨w.heap.size, 2, none⟩ = some (.int .i64 k) ∧ w'.cell? ⟨w.heap.size, 3, none⟩ = some (.int .i64 o) ∧ Below w1.heap.size w1 w')
    (exact HS.out _ (by first | assumption | exact bdr (by assumption)))
    (first
      | (go_at_call 21; refine (HT1.out _).mono ?_; rintro e w2 ⟨rfl, rfl⟩)
      | (go_at_call 25; refine (HT2.out _).mono ?_; rintro e w2 ⟨rfl, rfl⟩)
      | (go_at_call 26; refine (HB1.out _).mono ?_; rintro e w2 ⟨rfl, hb2⟩; have G2 := bch (by first | assumption | exact bdr (by assumption)) hb2)
      | (go_at_call 27; refine (HB2.out _).mono ?_; rintro e w3 ⟨rfl, hb3⟩; have G3 := bch (by assumption) hb3)
      | (go_at_call 20; refine (HLV.out _).mono ?_; rintro e w4 ⟨rfl, hb4⟩; have G4 := bch (by assumption) hb4))
  have HG := Lib.hid (bch HBW.out G4)
  clear hb2 G2 hb3 G3 hb4 G4 hw0
  go_wp2_with fail
  go_ret
  exact ⟨rfl, HG.out⟩

theorem own : ownKnob Try.prog.godebug = none := by kernel_rfl
set_option maxRecDepth 100000 in
theorem lifted (os : Os) (started : os.Started) (H : Type) (enc : TypeId × Value → H) :
    ReturnsInHanded {} Try.checked os 5 .any (Rows.frameBaseSpec.pre6 enc Try.prog Try.f5 Rows.frameBaseRow.domain false) (Rows.frameBaseSpec.post enc Try.prog Try.f5 false true false false) := by
  refine returnsInHanded_of_change_sized (C := Try.checked) own started (by kernel_rfl) Try.func5
    (ChangeSpec.witness6 (enc := enc) (C := Try.checked) false ⟨#[], #[.int .i64 0, .agg #[.int .i64 0, .int .i64 0, .int .i64 0, .int .i64 0], .int .i64 0], []⟩ 8 (by kernel_rfl) (by kernel_rfl) (by kernel_rfl) (by kernel_rfl)) ?_
  intro W base args ds gs before hval0 hW hcnd hsz _
  have hval : ∀ (j : Nat) t v, Try.f5.params[j]? = some t → args[j]? = some v → Value.okWide Try.prog W .any base t v := hval0
  have hW' := hW
  obtain ⟨p, q, hA0, hV, rfl, hfz, hnd⟩ := hW
  have hA : DataW.TrodAll enc Try.prog W 0 (fun _ => true) true Try.f5.params.toList args.toList ds p := hA0
  rw [Try.params5] at hA hval
  obtain ⟨v0, vs0, d0, ds0, p0, q0, hargs, rfl, rfl, h0, r0⟩ := trodAll_cons hA
  obtain ⟨v1, vs1, d1, ds1, p1, q1, rfl, rfl, rfl, h1, r1⟩ := trodAll_cons r0
  obtain ⟨v2, vs2, d2, ds2, p2, q2, rfl, rfl, rfl, h2, r2⟩ := trodAll_cons r1
  obtain ⟨rfl, rfl, rfl⟩ := trodAll_nil r2
  obtain rfl : args = #[v0, v1, v2] := by cases args; simp_all
  obtain ⟨rfl, rfl⟩ := trodVars_none hV
  clear hA0 hval0
  obtain ⟨t, rfl, rfl, rfl, w0⟩ := open_int Try.underlying3 (hval 0 3 v0 rfl rfl) h0
  obtain ⟨a, hv1, _⟩ := open_arr (hval 1 36 v1 rfl rfl) h1 (fun x hx => by simpa using hW'.lt x (by simp [hx])) (weights_of hsz 1 rfl rfl)
  obtain ⟨rail, rfl, rfl, rfl, w2⟩ := open_int Try.underlying3 (hval 2 3 v2 rfl rfl) h2
  refine (walk t a v1 hv1 rail W).mono fun e W' ⟨he, hg⟩ => ?_
  subst he
  exact ⟨_, rfl, law_post (by kernel_rfl) (by kernel_rfl) rfl (by kernel_rfl) Try.underlying4 rfl hW' hg⟩

theorem proved : Rows.FrameBaseSaid :=
  OpenClaim.holds_of_wide 5 Try.f5 rfl rfl rfl rfl rfl rfl rfl ⟨rfl, rfl, rfl, rfl, rfl⟩ rfl rfl rfl rfl rfl (by kernel_rfl) Try.func5 (by kernel_rfl)
    (of_decide_eq_true (by kernel_rfl)) (by unfold Func.isWrapper; first | (rw [if_pos (by decide +kernel)]; kernel_rfl) | (rw [if_neg (by decide +kernel)]; exact ⟨rfl, rfl⟩))
    (fun os started H enc _ => lifted os started H enc)
#print axioms proved
end Go.Proofs.Ytiaimceefkdchaa.frameBase
