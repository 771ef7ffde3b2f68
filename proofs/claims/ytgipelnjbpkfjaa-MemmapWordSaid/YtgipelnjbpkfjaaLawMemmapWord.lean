/- The Go function MemmapWord returns true on every input and leaves its arguments as they were. No condition. -/
import Derived.Test.YtgipelnjbpkfjaaRows
import Derived.WalkKit
import Derived.ProofKit
import Derived.OpenShut
import Derived.Test.YtgipelnjbpkfjaaLawKit
import Derived.SizedLaws
import Derived.Test.YtgipelnjbpkfjaaWordRM
namespace Go.Proofs.Ytgipelnjbpkfjaa.memmapWord
open Go.ChangeShapes Go.WideShapes Go.ChangeAt Go.RowKit
set_option linter.unusedVariables false

theorem no (i o r f a : Int) (wb : Bool) (hc : mmCheck i o r f ≠ 0) (w : World) : Calls Try.prog 6 #[.agg #[.int .i64 i, .int .i64 o, .int .i64 r], .int .i64 f, .int .i64 a, .bool wb] w fun e w' => e = .returned (.bool true) ∧ Below w.heap.size w w' := by
  have hq : (mmCheck i o r f != 0) = true := by rw [bne_iff_ne]; exact hc
  have HC := Lib.hid hc
  clear hc
  go_enter Try.func6, Try.ntmps6
  go_wp2_with fail
  refine (memmap_Regions_no i o r f HC.out _).mono ?_
  rintro e w2 ⟨rfl, hb⟩
  have HB := Lib.hid (bch ((Below.refl _ _).alloc (Nat.le_refl _) _ : Below w.heap.size w (w.alloc (Obj.cells #[Value.int IntKind.i64 i, Value.int IntKind.i64 o, Value.int IntKind.i64 r] 23))) hb)
  clear hb
  go_wp2_with (go_at_call 19; refine (law05_lives _).mono ?_; rintro e w7 ⟨rfl, hb7⟩)
  go_ret
  exact ⟨rfl, bch HB.out hb7⟩
theorem out0 (i o r f a : Int) (wb : Bool) (hc : mmCheck i o r f = 0)  (hx : a < 0) (w : World) : Calls Try.prog 6 #[.agg #[.int .i64 i, .int .i64 o, .int .i64 r], .int .i64 f, .int .i64 a, .bool wb] w fun e w' => e = .returned (.bool true) ∧ Below w.heap.size w w' := by
  have HC := Lib.hid hc
  clear hc
  go_enter Try.func6, Try.ntmps6
  go_wp2_with fail
  refine (memmap_Regions_yes i o r f HC.out _).mono ?_
  rintro e w2 ⟨g, rfl, hg, hge, hb⟩
  have HS := Lib.hid (rgSl_of hg)
  have HB := Lib.hid (bch ((Below.refl _ _).alloc (Nat.le_refl _) _ : Below w.heap.size w (w.alloc (Obj.cells #[Value.int IntKind.i64 i, Value.int IntKind.i64 o, Value.int IntKind.i64 r] 23))) hb)
  clear hg hge hb
  go_wp2_with (go_at_call 19; refine (law05_lives _).mono ?_; rintro e w7 ⟨rfl, hb7⟩)
  go_ret
  exact ⟨rfl, bch HB.out hb7⟩
theorem out1 (i o r f a : Int) (wb : Bool) (hc : mmCheck i o r f = 0) (g0 : 0 ≤ a) (hx : 1099511627776 < a) (w : World) : Calls Try.prog 6 #[.agg #[.int .i64 i, .int .i64 o, .int .i64 r], .int .i64 f, .int .i64 a, .bool wb] w fun e w' => e = .returned (.bool true) ∧ Below w.heap.size w w' := by
  have HC := Lib.hid hc
  clear hc
  go_enter Try.func6, Try.ntmps6
  go_wp2_with fail
  refine (memmap_Regions_yes i o r f HC.out _).mono ?_
  rintro e w2 ⟨g, rfl, hg, hge, hb⟩
  have HS := Lib.hid (rgSl_of hg)
  have HB := Lib.hid (bch ((Below.refl _ _).alloc (Nat.le_refl _) _ : Below w.heap.size w (w.alloc (Obj.cells #[Value.int IntKind.i64 i, Value.int IntKind.i64 o, Value.int IntKind.i64 r] 23))) hb)
  clear hg hge hb
  go_wp2_with (go_at_call 19; refine (law05_lives _).mono ?_; rintro e w7 ⟨rfl, hb7⟩)
  go_ret
  exact ⟨rfl, bch HB.out hb7⟩
set_option maxHeartbeats 1500000 in
theorem good (i o r f a p : Int) (wb : Bool) (hc : mmCheck i o r f = 0) (g0 : 0 ≤ a) (g1 : a ≤ 1099511627776) (hp : mmFind (mmRegions i o r f) a 4 wb = (p, 0)) (w : World) : Calls Try.prog 6 #[.agg #[.int .i64 i, .int .i64 o, .int .i64 r], .int .i64 f, .int .i64 a, .bool wb] w fun e w' => e = .returned (.bool true) ∧ Below w.heap.size w w' := by
  have HC := Lib.hid hc
  have HP := Lib.hid hp
  have HM := Lib.hid (word_bytes hc hp g0).2
  have hm := (word_bytes hc hp g0).1
  have hq : (a % 4 == 0) = true := by simpa using hm
  clear hc hp hm
  go_enter Try.func6, Try.ntmps6
  go_wp2_with fail
  refine (memmap_Regions_yes i o r f HC.out _).mono ?_
  rintro e w2 ⟨g, rfl, hg, hge, hb⟩
  have HS := Lib.hid (rgSl_of hg)
  have HB := Lib.hid (bch ((Below.refl _ _).alloc (Nat.le_refl _) _ : Below w.heap.size w (w.alloc (Obj.cells #[Value.int IntKind.i64 i, Value.int IntKind.i64 o, Value.int IntKind.i64 r] 23))) hb)
  clear hg hge hb
  go_wp2_with fail
  refine (memmap_Find (some ⟨g, 0, none⟩) 7 (mmRegions i o r f) a 4 wb (by show 7 ≤ _; decide) (fine_of _ _ _ _ HC.out) (by omega) _ HS.out).mono ?_
  rintro e w3 ⟨rfl, hb⟩
  have HS2 := Lib.hid (HS.out.next hb)
  have HB2 := Lib.hid (bch HB.out hb)
  clear hb
  rw [HP.out]
  unfold pairVal
  simp only
  go_wp2_with fail
  go_loopw [13, 14, 15, 16] (fun al n _ _ wx => ∃ k : Nat, k ≤ 4 ∧ n = .int .i64 k ∧ al = .bool true ∧ Hid (Below w3.heap.size w3 wx)) (fun _ n _ _ _ => 4 - (intOf n).toNat)
  case atStart => exact ⟨0, by decide, rfl, rfl, Lib.hid (Below.refl _ _)⟩
  case round =>
    obtain ⟨k, hk, rfl, rfl, hBw⟩ := hrel
    by_cases hlt : k < 4
    · go_wp2_with fail
      refine (memmap_Find (some ⟨g, 0, none⟩) 7 (mmRegions i o r f) (a + (k : Int)) 1 wb (by show 7 ≤ _; decide) (fine_of _ _ _ _ HC.out) (by omega) _ (HS2.out.next hBw.out)).mono ?_
      rintro e w4 ⟨rfl, hb⟩
      have HB4 := Lib.hid (bch hBw.out hb)
      clear hb
      rw [find_one]
      rw [HM.out k hlt]
      unfold pairVal
      simp only
      go_wp2_with fail
      go_roundw
      case rel => exact ⟨k + 1, by omega, by go_num, rfl, HB4⟩
      case measure => simp [intOf]; omega
    · obtain rfl : k = 4 := by omega
      go_wp2_with (go_at_call 19; refine (law05_lives _).mono ?_; rintro e w7 ⟨rfl, hb7⟩)
      go_ret
      exact ⟨rfl, bch HB2.out (bch hBw.out hb7)⟩
set_option maxHeartbeats 1500000 in
theorem bad (i o r f a p e1 : Int) (wb : Bool) (hc : mmCheck i o r f = 0) (g0 : 0 ≤ a) (g1 : a ≤ 1099511627776) (hp : mmFind (mmRegions i o r f) a 4 wb = (p, e1)) (he : e1 ≠ 0) (w : World) : Calls Try.prog 6 #[.agg #[.int .i64 i, .int .i64 o, .int .i64 r], .int .i64 f, .int .i64 a, .bool wb] w fun e w' => e = .returned (.bool true) ∧ Below w.heap.size w w' := by
  have HC := Lib.hid hc
  have HP := Lib.hid hp
  have hne : allW (fun k => (mmSeek (a + (k : Int)) 1 wb (mmRegions i o r f) 0).2 == 0) (a % 4 == 0) 4 = false := by
    cases h : allW (fun k => (mmSeek (a + (k : Int)) 1 wb (mmRegions i o r f) 0).2 == 0) (a % 4 == 0) 4
    · rfl
    · have h2 := allW_yes _ _ _ h
      have h3 := bytes_word (write := wb) hc g0 (by simpa using h2.1) (fun k hk => by simpa using h2.2 k hk)
      rw [hp] at h3
      exact absurd h3 he
  have HN := Lib.hid hne
  have hq : (e1 == 0) = false := by simpa using he
  clear hc hp he hne
  go_enter Try.func6, Try.ntmps6
  go_wp2_with fail
  refine (memmap_Regions_yes i o r f HC.out _).mono ?_
  rintro e w2 ⟨g, rfl, hg, hge, hb⟩
  have HS := Lib.hid (rgSl_of hg)
  have HB := Lib.hid (bch ((Below.refl _ _).alloc (Nat.le_refl _) _ : Below w.heap.size w (w.alloc (Obj.cells #[Value.int IntKind.i64 i, Value.int IntKind.i64 o, Value.int IntKind.i64 r] 23))) hb)
  clear hg hge hb
  go_wp2_with fail
  refine (memmap_Find (some ⟨g, 0, none⟩) 7 (mmRegions i o r f) a 4 wb (by show 7 ≤ _; decide) (fine_of _ _ _ _ HC.out) (by omega) _ HS.out).mono ?_
  rintro e w3 ⟨rfl, hb⟩
  have HS2 := Lib.hid (HS.out.next hb)
  have HB2 := Lib.hid (bch HB.out hb)
  clear hb
  rw [HP.out]
  unfold pairVal
  simp only
  go_wp2_with fail
  go_loopw [13, 14, 15, 16] (fun al n _ _ wx => ∃ k : Nat, k ≤ 4 ∧ n = .int .i64 k ∧ al = .bool (allW (fun k => (mmSeek (a + (k : Int)) 1 wb (mmRegions i o r f) 0).2 == 0) (a % 4 == 0) k) ∧ Hid (Below w3.heap.size w3 wx)) (fun _ n _ _ _ => 4 - (intOf n).toNat)
  case atStart => exact ⟨0, by decide, rfl, rfl, Lib.hid (Below.refl _ _)⟩
  case round =>
    obtain ⟨k, hk, rfl, rfl, hBw⟩ := hrel
    by_cases hlt : k < 4
    · go_wp2_with fail
      refine (memmap_Find (some ⟨g, 0, none⟩) 7 (mmRegions i o r f) (a + (k : Int)) 1 wb (by show 7 ≤ _; decide) (fine_of _ _ _ _ HC.out) (by omega) _ (HS2.out.next hBw.out)).mono ?_
      rintro e w4 ⟨rfl, hb⟩
      have HB4 := Lib.hid (bch hBw.out hb)
      clear hb
      rw [find_one]
      have hs : allW (fun k => (mmSeek (a + (k : Int)) 1 wb (mmRegions i o r f) 0).2 == 0) (a % 4 == 0) (k + 1) = (allW (fun k => (mmSeek (a + (k : Int)) 1 wb (mmRegions i o r f) 0).2 == 0) (a % 4 == 0) k && ((mmSeek (a + (k : Int)) 1 wb (mmRegions i o r f) 0).2 == 0)) := rfl
      have HSS := Lib.hid hs
      clear hs
      generalize allW (fun k => (mmSeek (a + (k : Int)) 1 wb (mmRegions i o r f) 0).2 == 0) (a % 4 == 0) k = al at *
      generalize mmSeek (a + (k : Int)) 1 wb (mmRegions i o r f) 0 = qq at *
      obtain ⟨q1, q2⟩ := qq
      unfold pairVal
      simp only
      cases al
      · go_wp2_with fail
        go_roundw
        case rel => exact ⟨k + 1, by omega, by go_num, by rw [HSS.out]; rfl, HB4⟩
        case measure => simp [intOf]; omega
      · go_wp2_with fail
        go_roundw
        case rel => exact ⟨k + 1, by omega, by go_num, by rw [HSS.out]; rfl, HB4⟩
        case measure => simp [intOf]; omega
    · obtain rfl : k = 4 := by omega
      rw [HN.out]
      go_wp2_with (go_at_call 19; refine (law05_lives _).mono ?_; rintro e w7 ⟨rfl, hb7⟩)
      go_ret
      exact ⟨rfl, bch HB2.out (bch hBw.out hb7)⟩
set_option maxHeartbeats 8000000 in
theorem walk (i o r f : Int) (v0 : Value) (hv : v0 = .agg #[.int .i64 i, .int .i64 o, .int .i64 r]) (a : Int) (wb : Bool) (w : World) :
    Calls Try.prog 6 #[v0, .int .i64 f, .int .i64 a, .bool wb] w fun e w' => e = .returned (.bool true) ∧ Below w.heap.size w w' := by
  subst hv
  by_cases hc : mmCheck i o r f = 0
  · by_cases h1 : a < 0
    · exact out0 i o r f a wb hc h1 w
    · by_cases h2 : 1099511627776 < a
      · exact out1 i o r f a wb hc (by omega) h2 w
      · cases hp : mmFind (mmRegions i o r f) a 4 wb with
        | mk p e1 =>
          by_cases he : e1 = 0
          · subst he
            exact good i o r f a p wb hc (by omega) (by omega) hp w
          · exact bad i o r f a p e1 wb hc (by omega) (by omega) hp he w
  · exact no i o r f a wb hc w

theorem own : ownKnob Try.prog.godebug = none := by kernel_rfl
set_option maxRecDepth 100000 in
theorem lifted (os : Os) (started : os.Started) (H : Type) (enc : TypeId × Value → H) :
    ReturnsInHanded {} Try.checked os 6 .any (Rows.memmapWordSpec.pre6 enc Try.prog Try.f6 Rows.memmapWordRow.domain false) (Rows.memmapWordSpec.post enc Try.prog Try.f6 false true false false) := by
  refine returnsInHanded_of_change_sized (C := Try.checked) own started (by kernel_rfl) Try.func6
    (ChangeSpec.witness6 (enc := enc) (C := Try.checked) false ⟨#[], #[.agg #[.int .i64 0, .int .i64 0, .int .i64 0], .int .i64 0, .int .i64 0, .bool false], []⟩ 8 (by kernel_rfl) (by kernel_rfl) (by kernel_rfl) (by kernel_rfl)) ?_
  intro W base args ds gs before hval0 hW hcnd hsz _
  have hval : ∀ (j : Nat) t v, Try.f6.params[j]? = some t → args[j]? = some v → Value.okWide Try.prog W .any base t v := hval0
  have hW' := hW
  obtain ⟨p, q, hA0, hV, rfl, hfz, hnd⟩ := hW
  have hA : DataW.TrodAll enc Try.prog W 0 (fun _ => true) true Try.f6.params.toList args.toList ds p := hA0
  rw [Try.params6] at hA hval
  obtain ⟨v0, vs0, d0, ds0, p0, q0, hargs, rfl, rfl, h0, r0⟩ := trodAll_cons hA
  obtain ⟨v1, vs1, d1, ds1, p1, q1, rfl, rfl, rfl, h1, r1⟩ := trodAll_cons r0
  obtain ⟨v2, vs2, d2, ds2, p2, q2, rfl, rfl, rfl, h2, r2⟩ := trodAll_cons r1
  obtain ⟨v3, vs3, d3, ds3, p3, q3, rfl, rfl, rfl, h3, r3⟩ := trodAll_cons r2
  obtain ⟨rfl, rfl, rfl⟩ := trodAll_nil r3
  obtain rfl : args = #[v0, v1, v2, v3] := by cases args; simp_all
  obtain ⟨rfl, rfl⟩ := trodVars_none hV
  clear hA0 hval0
  obtain ⟨i, o, r, hv, _, _, _⟩ := open_sizes (hval 0 23 v0 rfl rfl) h0 (fun x hx => by simpa using hW'.lt x (by simp [hx])) (weights_of hsz 0 rfl rfl)
  obtain ⟨f, rfl, rfl, rfl, w1⟩ := open_int Try.underlying3 (hval 1 3 v1 rfl rfl) h1
  obtain ⟨a, rfl, rfl, rfl, w2⟩ := open_int Try.underlying3 (hval 2 3 v2 rfl rfl) h2
  obtain ⟨wb, rfl, rfl, rfl⟩ := open_bool Try.underlying4 (hval 3 4 v3 rfl rfl) h3
  refine (walk i o r f v0 hv a wb W).mono fun e W' ⟨he, hg⟩ => ?_
  subst he
  exact ⟨_, rfl, law_post (by kernel_rfl) (by kernel_rfl) rfl (by kernel_rfl) Try.underlying4 rfl hW' hg⟩

theorem proved : Rows.MemmapWordSaid :=
  OpenClaim.holds_of_wide 6 Try.f6 rfl rfl rfl rfl rfl rfl rfl ⟨rfl, rfl, rfl, rfl, rfl⟩ rfl rfl rfl rfl rfl (by kernel_rfl) Try.func6 (by kernel_rfl)
    (of_decide_eq_true (by kernel_rfl)) (by unfold Func.isWrapper; first | (rw [if_pos (by decide +kernel)]; kernel_rfl) | (rw [if_neg (by decide +kernel)]; exact ⟨rfl, rfl⟩))
    (fun os started H enc _ => lifted os started H enc)
#print axioms proved
end Go.Proofs.Ytgipelnjbpkfjaa.memmapWord
