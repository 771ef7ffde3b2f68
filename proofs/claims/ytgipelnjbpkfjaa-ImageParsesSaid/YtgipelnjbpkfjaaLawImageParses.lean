/- The Go function ImageParses returns true on every input and leaves its arguments as they were. No condition. -/
import Derived.Test.YtgipelnjbpkfjaaRows
import Derived.WalkKit
import Derived.ProofKit
import Derived.OpenShut
import Derived.Test.YtgipelnjbpkfjaaLawKit
import Derived.Test.YtgipelnjbpkfjaaLives6
namespace Go.Proofs.Ytgipelnjbpkfjaa.imageParses
open Go.ChangeShapes Go.WideShapes Go.ChangeAt Go.RowKit
set_option linter.unusedVariables false

set_option maxHeartbeats 8000000 in
theorem walk (a0 : ByteArray) (w0 : a0.size ≤ maxLen) (w : World) :
    Calls Try.prog 8 #[.string a0] w fun e w' => e = .returned (.bool true) ∧ Below w.heap.size w w' := by
  clear w0
  by_cases hl : 524288 < a0.size
  · have hq : (524288 : Int) < (a0.size : Int) := by omega
    clear hl
    go_enter Try.func8, Try.ntmps8
    go_wp2_with fail
    refine (law06_lives _).mono ?_
    rintro e w1 ⟨rfl, hb1⟩
    go_wp2_with fail
    go_ret
    exact ⟨rfl, hb1⟩
  · have HA := Lib.hid (image_Parse a0)
    have HB := Lib.hid (ref06_Parse a0 (by omega))
    generalize imgParse a0 = U at *
    obtain ⟨h, n⟩ := U
    have HO := Lib.hid (law06_own h)
    obtain ⟨rs, hd, i, o, r, md⟩ := h
    unfold hdVal at *
    simp only at HA HB HO
    have hq : (a0.size : Int) ≤ (524288 : Int) := by omega
    clear hl
    go_enter Try.func8, Try.ntmps8
    go_wp2_with fail
    refine (HA.out _).mono ?_
    rintro e w1 ⟨rfl, hb1⟩
    have HB1 := Lib.hid hb1
    clear hb1
    go_wp2_with fail
    refine (HB.out _).mono ?_
    rintro e w2 ⟨rfl, hb2⟩
    have hx := (hb2.block w1.heap.size (by simp)).trans (heap_alloc_new w1 _)
    have hlt := lt_of_blk hx
    have HX := Lib.hid hx
    have HB2 := Lib.hid (bch (bal HB1.out _) hb2)
    clear hb2 hx
    go_wp2_with fail
    have hy := heap_alloc_new w2 (Obj.cells #[Value.int .i64 rs, .int .i64 hd, .int .i64 i, .int .i64 o, .int .i64 r, .int .i64 md] 46)
    have hx := (Below.heap_alloc w2 (Obj.cells #[Value.int .i64 rs, .int .i64 hd, .int .i64 i, .int .i64 o, .int .i64 r, .int .i64 md] 46) _ hlt).trans HX.out
    have hb3 : Below w.heap.size w (w2.alloc (Obj.cells #[Value.int .i64 rs, .int .i64 hd, .int .i64 i, .int .i64 o, .int .i64 r, .int .i64 md] 46)) := bal HB2.out _
    generalize w2.alloc (Obj.cells #[Value.int .i64 rs, .int .i64 hd, .int .i64 i, .int .i64 o, .int .i64 r, .int .i64 md] 46) = W1 at *
    have hl1 := lt_of_blk hx
    have hl2 := lt_of_blk hy
    have HB3 := Lib.hid hb3
    have hS : ∀ w', Below W1.heap.size W1 w' → (w'.cell? ⟨w1.heap.size, 0, none⟩ = some (.int .i64 rs) ∧ w'.cell? ⟨w1.heap.size, 1, none⟩ = some (.int .i64 hd) ∧ w'.cell? ⟨w1.heap.size, 2, none⟩ = some (.int .i64 i) ∧ w'.cell? ⟨w1.heap.size, 3, none⟩ = some (.int .i64 o) ∧ w'.cell? ⟨w1.heap.size, 4, none⟩ = some (.int .i64 r) ∧ w'.cell? ⟨w1.heap.size, 5, none⟩ = some (.int .i64 md)
        ∧ w'.cell? ⟨w2.heap.size, 0, none⟩ = some (.int .i64 rs) ∧ w'.cell? ⟨w2.heap.size, 1, none⟩ = some (.int .i64 hd) ∧ w'.cell? ⟨w2.heap.size, 2, none⟩ = some (.int .i64 i) ∧ w'.cell? ⟨w2.heap.size, 3, none⟩ = some (.int .i64 o) ∧ w'.cell? ⟨w2.heap.size, 4, none⟩ = some (.int .i64 r) ∧ w'.cell? ⟨w2.heap.size, 5, none⟩ = some (.int .i64 md) ∧ Below W1.heap.size W1 w') := by
      intro w' hb
      have y := (hb.block _ hl1).trans hx
      have z := (hb.block _ hl2).trans hy
      exact ⟨(cell_of_blk y 0).1, (cell_of_blk y 1).1, (cell_of_blk y 2).1, (cell_of_blk y 3).1, (cell_of_blk y 4).1, (cell_of_blk y 5).1, (cell_of_blk z 0).1, (cell_of_blk z 1).1, (cell_of_blk z 2).1, (cell_of_blk z 3).1, (cell_of_blk z 4).1, (cell_of_blk z 5).1, hb⟩
    have HS := Lib.hid hS
    have keep : ∀ a b : World, Below W1.heap.size W1 a → Below a.heap.size a b → Below W1.heap.size W1 b := fun a b h k => bch h k
    have KEEP := Lib.hid keep
    have hw3 := Below.refl W1.heap.size W1
    clear hS keep hb3 hl1 hl2 hx hy hlt
    go_region_held3 (fun w' => w'.cell? ⟨w1.heap.size, 0, none⟩ = some (.int .i64 rs) ∧ w'.cell? ⟨w1.heap.size, 1, none⟩ = some (.int .i64 hd) ∧ w'.cell? ⟨w1.heap.size, 2, none⟩ = some (.int .i64 i) ∧ w'.cell? ⟨w1.heap.size, 3, none⟩ = some (.int .i64 o) ∧ w'.cell? ⟨w1.heap.size, 4, none⟩ = some (.int .i64 r) ∧ w'.cell? ⟨w1.heap.size, 5, none⟩ = some (.int .i64 md)
        ∧ w'.cell? ⟨w2.heap.size, 0, none⟩ = some (.int .i64 rs) ∧ w'.cell? ⟨w2.heap.size, 1, none⟩ = some (.int .i64 hd) ∧ w'.cell? ⟨w2.heap.size, 2, none⟩ = some (.int .i64 i) ∧ w'.cell? ⟨w2.heap.size, 3, none⟩ = some (.int .i64 o) ∧ w'.cell? ⟨w2.heap.size, 4, none⟩ = some (.int .i64 r) ∧ w'.cell? ⟨w2.heap.size, 5, none⟩ = some (.int .i64 md) ∧ Below W1.heap.size W1 w')
      (first | exact HS.out _ (by first | assumption | exact Below.drew (by assumption)))
      (first | (go_at_call 24; refine (HO.out _).mono ?_; rintro e w4 ⟨rfl, hb⟩; have HB4 := KEEP.out _ _ (by first | assumption | exact Below.drew (by assumption)) hb) | (go_at_call 22; refine (law06_lives _).mono ?_; rintro e w5 ⟨rfl, hb⟩; have HB5 := KEEP.out _ _ (by first | assumption | exact Below.drew (by assumption)) hb))
    all_goals
      go_wp2_with fail
      go_ret
      exact ⟨rfl, bch HB3.out (by assumption)⟩

theorem own : ownKnob Try.prog.godebug = none := by kernel_rfl
set_option maxRecDepth 100000 in
theorem lifted (os : Os) (started : os.Started) (H : Type) (enc : TypeId × Value → H) :
    ReturnsInHanded {} Try.checked os 8 .any (Rows.imageParsesSpec.pre6 enc Try.prog Try.f8 Rows.imageParsesRow.domain false) (Rows.imageParsesSpec.post enc Try.prog Try.f8 false true false false) := by
  refine returnsInHanded_of_change (C := Try.checked) own started (by kernel_rfl) Try.func8
    (ChangeSpec.witness6 (enc := enc) (C := Try.checked) false ⟨#[], #[.string ⟨#[]⟩], []⟩ 8 (by kernel_rfl) (by kernel_rfl) (by kernel_rfl) (by kernel_rfl)) ?_
  intro W base args ds gs before hval0 hW hcnd _
  have hval : ∀ (j : Nat) t v, Try.f8.params[j]? = some t → args[j]? = some v → Value.okWide Try.prog W .any base t v := hval0
  have hW' := hW
  obtain ⟨p, q, hA0, hV, rfl, hfz, hnd⟩ := hW
  have hA : DataW.TrodAll enc Try.prog W 0 (fun _ => true) true Try.f8.params.toList args.toList ds p := hA0
  rw [Try.params8] at hA hval
  obtain ⟨v0, vs0, d0, ds0, p0, q0, hargs, rfl, rfl, h0, r0⟩ := trodAll_cons hA
  obtain ⟨rfl, rfl, rfl⟩ := trodAll_nil r0
  obtain rfl : args = #[v0] := by cases args; simp_all
  obtain ⟨rfl, rfl⟩ := trodVars_none hV
  clear hA0 hval0
  obtain ⟨a0, rfl, rfl, rfl, w0⟩ := Go.ChangeMaps.open_string Try.underlying9 (hval 0 9 v0 rfl rfl) h0
  refine (walk a0 w0 W).mono fun e W' ⟨he, hg⟩ => ?_
  subst he
  exact ⟨_, rfl, law_post (by kernel_rfl) (by kernel_rfl) rfl (by kernel_rfl) Try.underlying4 rfl hW' hg⟩

theorem proved : Rows.ImageParsesSaid :=
  OpenClaim.holds_of_wide 8 Try.f8 rfl rfl rfl rfl rfl rfl rfl ⟨rfl, rfl, rfl, rfl, rfl⟩ rfl rfl rfl rfl rfl (by kernel_rfl) Try.func8 (by kernel_rfl)
    (of_decide_eq_true (by kernel_rfl)) (by unfold Func.isWrapper; first | (rw [if_pos (by decide +kernel)]; kernel_rfl) | (rw [if_neg (by decide +kernel)]; exact ⟨rfl, rfl⟩))
    (fun os started H enc _ => lifted os started H enc)
#print axioms proved
end Go.Proofs.Ytgipelnjbpkfjaa.imageParses
