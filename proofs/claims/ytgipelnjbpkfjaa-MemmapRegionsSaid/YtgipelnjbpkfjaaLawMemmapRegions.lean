/- The Go function MemmapRegions returns true on every input and leaves its arguments as they were. No condition. -/
import Derived.Test.YtgipelnjbpkfjaaRows
import Derived.WalkKit
import Derived.ProofKit
import Derived.OpenShut
import Derived.Test.YtgipelnjbpkfjaaLawKit
import Derived.SizedLaws
import Derived.Test.YtgipelnjbpkfjaaLives5
import Derived.Test.YtgipelnjbpkfjaaRgOpen
namespace Go.Proofs.Ytgipelnjbpkfjaa.memmapRegions
open Go.ChangeShapes Go.WideShapes Go.ChangeAt Go.RowKit
set_option linter.unusedVariables false

set_option maxHeartbeats 8000000 in
theorem walk (i o r f : Int) (v0 : Value) (hv : v0 = .agg #[.int .i64 i, .int .i64 o, .int .i64 r]) (hr : I64 r) (w : World) :
    Calls Try.prog 3 #[v0, .int .i64 f] w fun e w' => e = .returned (.bool true) ∧ Below w.heap.size w w' := by
  subst hv
  have HR := Lib.hid hr
  clear hr
  by_cases hc : mmCheck i o r f = 0
  · have HC := Lib.hid hc
    clear hc
    go_enter Try.func3, Try.ntmps3
    go_wp2_with fail
    have hx := heap_alloc_new w (Obj.cells #[Value.int IntKind.i64 i, Value.int IntKind.i64 o, Value.int IntKind.i64 r] 23)
    have hb0 : Below w.heap.size w (w.alloc (Obj.cells #[Value.int IntKind.i64 i, Value.int IntKind.i64 o, Value.int IntKind.i64 r] 23)) := (Below.refl _ _).alloc (Nat.le_refl _) _
    have hl0 : w.heap.size < (w.alloc (Obj.cells #[Value.int IntKind.i64 i, Value.int IntKind.i64 o, Value.int IntKind.i64 r] 23)).heap.size := by simp
    generalize w.alloc (Obj.cells #[Value.int IntKind.i64 i, Value.int IntKind.i64 o, Value.int IntKind.i64 r] 23) = W1 at *
    have HX := Lib.hid hx
    have HB0 := Lib.hid hb0
    clear hx hb0
    refine (memmap_Regions_yes i o r f HC.out _).mono ?_
    rintro e w2 ⟨g, rfl, hg, hge, hb⟩
    have HG := Lib.hid (rgSl_of hg)
    have HB1 := Lib.hid hb
    have hx := (hb.block _ hl0).trans HX.out
    have c0 := (cell_of_blk hx 0).1
    have c1 := (cell_of_blk hx 1).1
    have c2 := (cell_of_blk hx 2).1
    simp only [List.getElem?_toArray, List.getElem?_cons_zero, List.getElem?_cons_succ] at c0 c1 c2
    clear hb hx hg hge
    go_wp2_with fail
    refine (ref05_Regions_yes i o r f HR.out HC.out _).mono ?_
    rintro e w3 ⟨g', rfl, hg, hge, hb⟩
    have HG' := Lib.hid (rgSl_of hg)
    have HGn := Lib.hid (HG.out.next hb)
    have HB2 := Lib.hid (bch HB1.out hb)
    clear hb c0 c1 c2 hg hge
    go_wp2_with fail
    have hS : ∀ w', Below W1.heap.size W1 w' → (w'.cell? ⟨w.heap.size, 0, none⟩ = some (.int .i64 i) ∧ w'.cell? ⟨w.heap.size, 1, none⟩ = some (.int .i64 o) ∧ w'.cell? ⟨w.heap.size, 2, none⟩ = some (.int .i64 r) ∧ Below W1.heap.size W1 w') := by
      intro w' hb
      have y0 := (hb.block _ hl0).trans HX.out
      exact ⟨(cell_of_blk y0 0).1, (cell_of_blk y0 1).1, (cell_of_blk y0 2).1, hb⟩
    have HS := Lib.hid hS
    obtain ⟨c0, c1, c2, hw3⟩ := hS _ HB2.out
    have keep : ∀ a b : World, Below W1.heap.size W1 a → Below a.heap.size a b → Below W1.heap.size W1 b := fun a b h k => bch h k
    have KEEP := Lib.hid keep
    clear hS keep
    go_region_held3 (fun w' => w'.cell? ⟨w.heap.size, 0, none⟩ = some (.int .i64 i) ∧ w'.cell? ⟨w.heap.size, 1, none⟩ = some (.int .i64 o) ∧ w'.cell? ⟨w.heap.size, 2, none⟩ = some (.int .i64 r) ∧ Below W1.heap.size W1 w')
      (first | exact HS.out _ (by first | assumption | exact Below.drew (by assumption)))
      (first | (go_at_call 16; refine (law05_Same (some ⟨g, 0, none⟩) (some ⟨g', 0, none⟩) 7 7 (mmRegions i o r f) (by show (7 : Nat) ≤ _; decide) _ HGn.out.drew' HG'.out.drew').mono ?_; rintro e w4 ⟨rfl, hb⟩; have HB3 := KEEP.out _ _ (by first | assumption | exact Below.drew (by assumption)) hb) | (go_at_call 17; refine (memmap_Check i o r f _).mono ?_; rintro e w5 ⟨rfl, hb⟩; have HB4 := KEEP.out _ _ (by first | assumption | exact Below.drew (by assumption)) hb) | (go_at_call 18; refine (ref05_Check i o r f HR.out _).mono ?_; rintro e w6 ⟨rfl, hb⟩; have HB5 := KEEP.out _ _ (by first | assumption | exact Below.drew (by assumption)) hb) | (go_at_call 19; refine (law05_lives _).mono ?_; rintro e w7 ⟨rfl, hb⟩; have HB6 := KEEP.out _ _ (by first | assumption | exact Below.drew (by assumption)) hb))
    go_wp2_with fail
    go_ret
    exact ⟨rfl, bch HB0.out HB6⟩
  · have HC := Lib.hid hc
    clear hc
    go_enter Try.func3, Try.ntmps3
    go_wp2_with fail
    have hx := heap_alloc_new w (Obj.cells #[Value.int IntKind.i64 i, Value.int IntKind.i64 o, Value.int IntKind.i64 r] 23)
    have hb0 : Below w.heap.size w (w.alloc (Obj.cells #[Value.int IntKind.i64 i, Value.int IntKind.i64 o, Value.int IntKind.i64 r] 23)) := (Below.refl _ _).alloc (Nat.le_refl _) _
    have hl0 : w.heap.size < (w.alloc (Obj.cells #[Value.int IntKind.i64 i, Value.int IntKind.i64 o, Value.int IntKind.i64 r] 23)).heap.size := by simp
    generalize w.alloc (Obj.cells #[Value.int IntKind.i64 i, Value.int IntKind.i64 o, Value.int IntKind.i64 r] 23) = W1 at *
    have HX := Lib.hid hx
    have HB0 := Lib.hid hb0
    clear hx hb0
    refine (memmap_Regions_no i o r f HC.out _).mono ?_
    rintro e w2 ⟨rfl, hb⟩
    have HB1 := Lib.hid hb
    have hx := (hb.block _ hl0).trans HX.out
    have c0 := (cell_of_blk hx 0).1
    have c1 := (cell_of_blk hx 1).1
    have c2 := (cell_of_blk hx 2).1
    simp only [List.getElem?_toArray, List.getElem?_cons_zero, List.getElem?_cons_succ] at c0 c1 c2
    clear hb hx
    go_wp2_with fail
    refine (ref05_Regions_no i o r f HR.out HC.out _).mono ?_
    rintro e w3 ⟨rfl, hb⟩
    skip
    have HB2 := Lib.hid (bch HB1.out hb)
    clear hb c0 c1 c2
    go_wp2_with fail
    have hS : ∀ w', Below W1.heap.size W1 w' → (w'.cell? ⟨w.heap.size, 0, none⟩ = some (.int .i64 i) ∧ w'.cell? ⟨w.heap.size, 1, none⟩ = some (.int .i64 o) ∧ w'.cell? ⟨w.heap.size, 2, none⟩ = some (.int .i64 r) ∧ Below W1.heap.size W1 w') := by
      intro w' hb
      have y0 := (hb.block _ hl0).trans HX.out
      exact ⟨(cell_of_blk y0 0).1, (cell_of_blk y0 1).1, (cell_of_blk y0 2).1, hb⟩
    have HS := Lib.hid hS
    obtain ⟨c0, c1, c2, hw3⟩ := hS _ HB2.out
    have keep : ∀ a b : World, Below W1.heap.size W1 a → Below a.heap.size a b → Below W1.heap.size W1 b := fun a b h k => bch h k
    have KEEP := Lib.hid keep
    clear hS keep
    go_region_held3 (fun w' => w'.cell? ⟨w.heap.size, 0, none⟩ = some (.int .i64 i) ∧ w'.cell? ⟨w.heap.size, 1, none⟩ = some (.int .i64 o) ∧ w'.cell? ⟨w.heap.size, 2, none⟩ = some (.int .i64 r) ∧ Below W1.heap.size W1 w')
      (first | exact HS.out _ (by first | assumption | exact Below.drew (by assumption)))
      (first | (go_at_call 16; refine (law05_Same none none 0 0 [] (by decide) _ (fun h => absurd rfl h) (fun h => absurd rfl h)).mono ?_; rintro e w4 ⟨rfl, hb⟩; have HB3 := KEEP.out _ _ (by first | assumption | exact Below.drew (by assumption)) hb) | (go_at_call 17; refine (memmap_Check i o r f _).mono ?_; rintro e w5 ⟨rfl, hb⟩; have HB4 := KEEP.out _ _ (by first | assumption | exact Below.drew (by assumption)) hb) | (go_at_call 18; refine (ref05_Check i o r f HR.out _).mono ?_; rintro e w6 ⟨rfl, hb⟩; have HB5 := KEEP.out _ _ (by first | assumption | exact Below.drew (by assumption)) hb) | (go_at_call 19; refine (law05_lives _).mono ?_; rintro e w7 ⟨rfl, hb⟩; have HB6 := KEEP.out _ _ (by first | assumption | exact Below.drew (by assumption)) hb))
    go_wp2_with fail
    go_ret
    exact ⟨rfl, bch HB0.out HB6⟩

theorem own : ownKnob Try.prog.godebug = none := by kernel_rfl
set_option maxRecDepth 100000 in
theorem lifted (os : Os) (started : os.Started) (H : Type) (enc : TypeId × Value → H) :
    ReturnsInHanded {} Try.checked os 3 .any (Rows.memmapRegionsSpec.pre6 enc Try.prog Try.f3 Rows.memmapRegionsRow.domain false) (Rows.memmapRegionsSpec.post enc Try.prog Try.f3 false true false false) := by
  refine returnsInHanded_of_change_sized (C := Try.checked) own started (by kernel_rfl) Try.func3
    (ChangeSpec.witness6 (enc := enc) (C := Try.checked) false ⟨#[], #[.agg #[.int .i64 0, .int .i64 0, .int .i64 0], .int .i64 0], []⟩ 8 (by kernel_rfl) (by kernel_rfl) (by kernel_rfl) (by kernel_rfl)) ?_
  intro W base args ds gs before hval0 hW hcnd hsz _
  have hval : ∀ (j : Nat) t v, Try.f3.params[j]? = some t → args[j]? = some v → Value.okWide Try.prog W .any base t v := hval0
  have hW' := hW
  obtain ⟨p, q, hA0, hV, rfl, hfz, hnd⟩ := hW
  have hA : DataW.TrodAll enc Try.prog W 0 (fun _ => true) true Try.f3.params.toList args.toList ds p := hA0
  rw [Try.params3] at hA hval
  obtain ⟨v0, vs0, d0, ds0, p0, q0, hargs, rfl, rfl, h0, r0⟩ := trodAll_cons hA
  obtain ⟨v1, vs1, d1, ds1, p1, q1, rfl, rfl, rfl, h1, r1⟩ := trodAll_cons r0
  obtain ⟨rfl, rfl, rfl⟩ := trodAll_nil r1
  obtain rfl : args = #[v0, v1] := by cases args; simp_all
  obtain ⟨rfl, rfl⟩ := trodVars_none hV
  clear hA0 hval0
  obtain ⟨i, o, r, hv, _, _, hr⟩ := open_sizes (hval 0 23 v0 rfl rfl) h0 (fun x hx => by simpa using hW'.lt x (by simp [hx])) (weights_of hsz 0 rfl rfl)
  obtain ⟨f, rfl, rfl, rfl, w1⟩ := open_int Try.underlying3 (hval 1 3 v1 rfl rfl) h1
  refine (walk i o r f v0 hv hr W).mono fun e W' ⟨he, hg⟩ => ?_
  subst he
  exact ⟨_, rfl, law_post (by kernel_rfl) (by kernel_rfl) rfl (by kernel_rfl) Try.underlying4 rfl hW' hg⟩

theorem proved : Rows.MemmapRegionsSaid :=
  OpenClaim.holds_of_wide 3 Try.f3 rfl rfl rfl rfl rfl rfl rfl ⟨rfl, rfl, rfl, rfl, rfl⟩ rfl rfl rfl rfl rfl (by kernel_rfl) Try.func3 (by kernel_rfl)
    (of_decide_eq_true (by kernel_rfl)) (by unfold Func.isWrapper; first | (rw [if_pos (by decide +kernel)]; kernel_rfl) | (rw [if_neg (by decide +kernel)]; exact ⟨rfl, rfl⟩))
    (fun os started H enc _ => lifted os started H enc)
#print axioms proved
end Go.Proofs.Ytgipelnjbpkfjaa.memmapRegions
