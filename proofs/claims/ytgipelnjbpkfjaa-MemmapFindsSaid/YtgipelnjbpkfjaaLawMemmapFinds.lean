/- The Go function MemmapFinds returns true on every input and leaves its arguments as they were. No condition. -/
import Derived.Test.YtgipelnjbpkfjaaRows
import Derived.WalkKit
import Derived.ProofKit
import Derived.OpenShut
import Derived.Test.YtgipelnjbpkfjaaLawKit
import Derived.SizedLaws
import Derived.Test.YtgipelnjbpkfjaaLives5
import Derived.Test.YtgipelnjbpkfjaaRgOpen
namespace Go.Proofs.Ytgipelnjbpkfjaa.memmapFinds
open Go.ChangeShapes Go.WideShapes Go.ChangeAt Go.RowKit
set_option linter.unusedVariables false

set_option maxHeartbeats 8000000 in
theorem walk (A : Option Addr) (c : Nat) (xs : List Rg) (v0 : Value) (hv : v0 = .slice A xs.length c) (hn : xs.length ≤ 5864062014805) (hI : ∀ x ∈ xs, I64 x.base ∧ I64 x.len)
        (a1 a2 : Int) (a3 : Bool) (ha1 : (Lit.int .i64 a1).wf = true) (w : World) (hA : RgSl w w.heap.size A xs) :
    Calls Try.prog 4 #[v0, .int .i64 a1, .int .i64 a2, .bool a3] w fun e w' => e = .returned (.bool true) ∧ Below w.heap.size w w' := by
  subst hv
  have ha := (i64_wf ha1).2
  have HA := Lib.hid hA
  have HI := Lib.hid hI
  clear ha1 hA hI
  by_cases h100 : 100 < xs.length
  · go_enter Try.func4, Try.ntmps4
    go_wp2_with (go_at_call 19; refine (law05_lives _).mono ?_; rintro e w7 ⟨rfl, hb7⟩)
    go_ret
    exact ⟨rfl, hb7⟩
  · go_enter Try.func4, Try.ntmps4
    go_wp2_with fail
    go_loopw [9] (fun i wr => ∃ k : Nat, k ≤ xs.length ∧ i = .int .i64 k ∧ w = wr ∧ Hid (∀ j, j < k → 0 ≤ (xs.getD j rgNone).base ∧ (xs.getD j rgNone).base ≤ 1099511627776 ∧ (xs.getD j rgNone).len ≤ 1099511627776)) (fun i _ => xs.length - (intOf i).toNat)
    case atStart => exact ⟨0, Nat.zero_le _, rfl, rfl, Lib.hid (fun j h => by omega)⟩
    case round =>
      obtain ⟨k, hk, rfl, rfl, HK⟩ := hrel
      by_cases hlt : k < xs.length
      · have hne : xs ≠ [] := by intro e; rw [e] at hlt; simp at hlt
        obtain ⟨b, off, rfl, hl1, hcell⟩ := HA.out hne
        obtain ⟨h0, h1, h2⟩ := hcell k hlt
        have HKK : Hid (0 ≤ (xs.getD k rgNone).base ∧ (xs.getD k rgNone).base ≤ 1099511627776 ∧ (xs.getD k rgNone).len ≤ 1099511627776 → ∀ j, j < k + 1 → 0 ≤ (xs.getD j rgNone).base ∧ (xs.getD j rgNone).base ≤ 1099511627776 ∧ (xs.getD j rgNone).len ≤ 1099511627776) := Lib.hid (by
          intro h j hj
          rcases Nat.lt_or_ge j k with h3 | h3
          · exact HK.out j h3
          · obtain rfl : j = k := by omega
            exact h)
        generalize hx : xs.getD k rgNone = x at h0 h1 h2
        have HX := Lib.hid hx
        clear hx hcell
        obtain ⟨xb, xl, xw⟩ := x
        simp only at h0 h1 h2
        go_wp2_with (go_at_call 19; refine (law05_lives _).mono ?_; rintro e w7 ⟨rfl, hb7⟩)
        all_goals first
          | (go_ret; exact ⟨rfl, hb7⟩)
          | (go_roundw
             case rel => exact ⟨k + 1, by omega, by go_num, by trivial, Lib.hid (HKK.out (by rw [HX.out]; refine ⟨?_, ?_, ?_⟩ <;> (simp only; omega)))⟩
             case measure => simp [intOf]; omega)
      · obtain rfl : k = xs.length := by omega
        have hf : ∀ x ∈ xs, x.fine := by
          intro x hx
          obtain ⟨j, hj, rfl⟩ := List.getElem_of_mem hx
          have h1 := HK.out j hj
          have h2 := (HI.out _ (List.getElem_mem hj)).2
          have e : xs.getD j rgNone = xs[j] := by simp [List.getD, List.getElem?_eq_getElem hj]
          rw [e] at h1
          exact ⟨h1.1, h1.2.1, h2.1, h1.2.2⟩
        have HF := Lib.hid hf
        clear hf
        go_wp2_with fail
        refine (memmap_Find A c xs a1 a2 a3 (by omega) HF.out ha _ HA.out).mono ?_
        rintro e w2 ⟨rfl, hb2⟩
        have HB2 := Lib.hid hb2
        have HA2 := Lib.hid (HA.out.next hb2)
        clear hb2
        unfold pairVal
        go_wp2_with fail
        refine (ref05_Find A c xs a1 a2 a3 (by omega) HF.out ha _ HA2.out).mono ?_
        rintro e w3 ⟨rfl, hb3⟩
        have HB3 := Lib.hid hb3
        clear hb3
        unfold pairVal
        go_wp2_with (go_at_call 19; refine (law05_lives _).mono ?_; rintro e w7 ⟨rfl, hb7⟩)
        go_ret
        exact ⟨rfl, bch HB2.out (bch HB3.out hb7)⟩

theorem own : ownKnob Try.prog.godebug = none := by kernel_rfl
set_option maxRecDepth 100000 in
theorem lifted (os : Os) (started : os.Started) (H : Type) (enc : TypeId × Value → H) :
    ReturnsInHanded {} Try.checked os 4 .any (Rows.memmapFindsSpec.pre6 enc Try.prog Try.f4 Rows.memmapFindsRow.domain false) (Rows.memmapFindsSpec.post enc Try.prog Try.f4 false true false false) := by
  refine returnsInHanded_of_change_sized (C := Try.checked) own started (by kernel_rfl) Try.func4
    (ChangeSpec.witness6 (enc := enc) (C := Try.checked) false ⟨#[], #[.slice none 0 0, .int .i64 0, .int .i64 0, .bool false], []⟩ 8 (by kernel_rfl) (by kernel_rfl) (by kernel_rfl) (by kernel_rfl)) ?_
  intro W base args ds gs before hval0 hW hcnd hsz _
  have hval : ∀ (j : Nat) t v, Try.f4.params[j]? = some t → args[j]? = some v → Value.okWide Try.prog W .any base t v := hval0
  have hW' := hW
  obtain ⟨p, q, hA0, hV, rfl, hfz, hnd⟩ := hW
  have hA : DataW.TrodAll enc Try.prog W 0 (fun _ => true) true Try.f4.params.toList args.toList ds p := hA0
  rw [Try.params4] at hA hval
  obtain ⟨v0, vs0, d0, ds0, p0, q0, hargs, rfl, rfl, h0, r0⟩ := trodAll_cons hA
  obtain ⟨v1, vs1, d1, ds1, p1, q1, rfl, rfl, rfl, h1, r1⟩ := trodAll_cons r0
  obtain ⟨v2, vs2, d2, ds2, p2, q2, rfl, rfl, rfl, h2, r2⟩ := trodAll_cons r1
  obtain ⟨v3, vs3, d3, ds3, p3, q3, rfl, rfl, rfl, h3, r3⟩ := trodAll_cons r2
  obtain ⟨rfl, rfl, rfl⟩ := trodAll_nil r3
  obtain rfl : args = #[v0, v1, v2, v3] := by cases args; simp_all
  obtain ⟨rfl, rfl⟩ := trodVars_none hV
  clear hA0 hval0
  obtain ⟨A, c, xs, hv, hn, hE, hI⟩ := open_regions (hval 0 24 v0 rfl rfl) h0 (fun x hx => by simpa using hW'.lt x (by simp [hx])) (weights_of hsz 0 rfl rfl)
  obtain ⟨a1, rfl, rfl, rfl, w1⟩ := open_int Try.underlying3 (hval 1 3 v1 rfl rfl) h1
  obtain ⟨a2, rfl, rfl, rfl, w2⟩ := open_int Try.underlying3 (hval 2 3 v2 rfl rfl) h2
  obtain ⟨a3, rfl, rfl, rfl⟩ := open_bool Try.underlying4 (hval 3 4 v3 rfl rfl) h3
  refine (walk A c xs v0 hv hn hI a1 a2 a3 w1 W hE).mono fun e W' ⟨he, hg⟩ => ?_
  subst he
  exact ⟨_, rfl, law_post (by kernel_rfl) (by kernel_rfl) rfl (by kernel_rfl) Try.underlying4 rfl hW' hg⟩

theorem proved : Rows.MemmapFindsSaid :=
  OpenClaim.holds_of_wide 4 Try.f4 rfl rfl rfl rfl rfl rfl rfl ⟨rfl, rfl, rfl, rfl, rfl⟩ rfl rfl rfl rfl rfl (by kernel_rfl) Try.func4 (by kernel_rfl)
    (of_decide_eq_true (by kernel_rfl)) (by unfold Func.isWrapper; first | (rw [if_pos (by decide +kernel)]; kernel_rfl) | (rw [if_neg (by decide +kernel)]; exact ⟨rfl, rfl⟩))
    (fun os started H enc _ => lifted os started H enc)
#print axioms proved
end Go.Proofs.Ytgipelnjbpkfjaa.memmapFinds
