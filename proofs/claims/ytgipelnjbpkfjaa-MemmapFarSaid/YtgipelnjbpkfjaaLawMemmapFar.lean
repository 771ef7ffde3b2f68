/- The Go function MemmapFar returns true on every input and leaves its arguments as they were. No condition. -/
import Derived.Test.YtgipelnjbpkfjaaRows
import Derived.WalkKit
import Derived.ProofKit
import Derived.OpenShut
import Derived.Test.YtgipelnjbpkfjaaLawKit
import Derived.SizedLaws
import Derived.Test.YtgipelnjbpkfjaaFarM
namespace Go.Proofs.Ytgipelnjbpkfjaa.memmapFar
open Go.ChangeShapes Go.WideShapes Go.ChangeAt Go.RowKit
set_option linter.unusedVariables false

theorem no (i o r f a bit : Int) (hc : mmCheck i o r f ≠ 0) (w : World) : Calls Try.prog 5 #[.agg #[.int .i64 i, .int .i64 o, .int .i64 r], .int .i64 f, .int .i64 a, .int .i64 bit] w fun e w' => e = .returned (.bool true) ∧ Below w.heap.size w w' := by
  have hq : (mmCheck i o r f != 0) = true := by rw [bne_iff_ne]; exact hc
  have HC := Lib.hid hc
  clear hc
  go_enter Try.func5, Try.ntmps5
  go_wp2_with fail
  refine (memmap_Regions_no i o r f HC.out _).mono ?_
  rintro e w2 ⟨rfl, hb⟩
  have HB := Lib.hid (bch ((Below.refl _ _).alloc (Nat.le_refl _) _ : Below w.heap.size w (w.alloc (Obj.cells #[Value.int IntKind.i64 i, Value.int IntKind.i64 o, Value.int IntKind.i64 r] 23))) hb)
  clear hb
  go_wp2_with (go_at_call 19; refine (law05_lives _).mono ?_; rintro e w7 ⟨rfl, hb7⟩)
  go_ret
  exact ⟨rfl, bch HB.out hb7⟩
theorem out0 (i o r f a bit : Int) (hc : mmCheck i o r f = 0)  (hx : a < 0) (w : World) : Calls Try.prog 5 #[.agg #[.int .i64 i, .int .i64 o, .int .i64 r], .int .i64 f, .int .i64 a, .int .i64 bit] w fun e w' => e = .returned (.bool true) ∧ Below w.heap.size w w' := by
  have HC := Lib.hid hc
  clear hc
  go_enter Try.func5, Try.ntmps5
  go_wp2_with fail
  refine (memmap_Regions_yes i o r f HC.out _).mono ?_
  rintro e w2 ⟨g, rfl, hg, hge, hb⟩
  have HS := Lib.hid (rgSl_of hg)
  have HB := Lib.hid (bch ((Below.refl _ _).alloc (Nat.le_refl _) _ : Below w.heap.size w (w.alloc (Obj.cells #[Value.int IntKind.i64 i, Value.int IntKind.i64 o, Value.int IntKind.i64 r] 23))) hb)
  clear hg hge hb
  go_wp2_with (go_at_call 19; refine (law05_lives _).mono ?_; rintro e w7 ⟨rfl, hb7⟩)
  go_ret
  exact ⟨rfl, bch HB.out hb7⟩
theorem out1 (i o r f a bit : Int) (hc : mmCheck i o r f = 0) (g0 : 0 ≤ a) (hx : 4294967296 ≤ a) (w : World) : Calls Try.prog 5 #[.agg #[.int .i64 i, .int .i64 o, .int .i64 r], .int .i64 f, .int .i64 a, .int .i64 bit] w fun e w' => e = .returned (.bool true) ∧ Below w.heap.size w w' := by
  have HC := Lib.hid hc
  clear hc
  go_enter Try.func5, Try.ntmps5
  go_wp2_with fail
  refine (memmap_Regions_yes i o r f HC.out _).mono ?_
  rintro e w2 ⟨g, rfl, hg, hge, hb⟩
  have HS := Lib.hid (rgSl_of hg)
  have HB := Lib.hid (bch ((Below.refl _ _).alloc (Nat.le_refl _) _ : Below w.heap.size w (w.alloc (Obj.cells #[Value.int IntKind.i64 i, Value.int IntKind.i64 o, Value.int IntKind.i64 r] 23))) hb)
  clear hg hge hb
  go_wp2_with (go_at_call 19; refine (law05_lives _).mono ?_; rintro e w7 ⟨rfl, hb7⟩)
  go_ret
  exact ⟨rfl, bch HB.out hb7⟩
theorem out2 (i o r f a bit : Int) (hc : mmCheck i o r f = 0) (g0 : 0 ≤ a) (g1 : a < 4294967296) (hx : bit < 0) (w : World) : Calls Try.prog 5 #[.agg #[.int .i64 i, .int .i64 o, .int .i64 r], .int .i64 f, .int .i64 a, .int .i64 bit] w fun e w' => e = .returned (.bool true) ∧ Below w.heap.size w w' := by
  have HC := Lib.hid hc
  clear hc
  go_enter Try.func5, Try.ntmps5
  go_wp2_with fail
  refine (memmap_Regions_yes i o r f HC.out _).mono ?_
  rintro e w2 ⟨g, rfl, hg, hge, hb⟩
  have HS := Lib.hid (rgSl_of hg)
  have HB := Lib.hid (bch ((Below.refl _ _).alloc (Nat.le_refl _) _ : Below w.heap.size w (w.alloc (Obj.cells #[Value.int IntKind.i64 i, Value.int IntKind.i64 o, Value.int IntKind.i64 r] 23))) hb)
  clear hg hge hb
  go_wp2_with (go_at_call 19; refine (law05_lives _).mono ?_; rintro e w7 ⟨rfl, hb7⟩)
  go_ret
  exact ⟨rfl, bch HB.out hb7⟩
theorem out3 (i o r f a bit : Int) (hc : mmCheck i o r f = 0) (g0 : 0 ≤ a) (g1 : a < 4294967296) (g2 : 0 ≤ bit) (hx : 31 < bit) (w : World) : Calls Try.prog 5 #[.agg #[.int .i64 i, .int .i64 o, .int .i64 r], .int .i64 f, .int .i64 a, .int .i64 bit] w fun e w' => e = .returned (.bool true) ∧ Below w.heap.size w w' := by
  have HC := Lib.hid hc
  clear hc
  go_enter Try.func5, Try.ntmps5
  go_wp2_with fail
  refine (memmap_Regions_yes i o r f HC.out _).mono ?_
  rintro e w2 ⟨g, rfl, hg, hge, hb⟩
  have HS := Lib.hid (rgSl_of hg)
  have HB := Lib.hid (bch ((Below.refl _ _).alloc (Nat.le_refl _) _ : Below w.heap.size w (w.alloc (Obj.cells #[Value.int IntKind.i64 i, Value.int IntKind.i64 o, Value.int IntKind.i64 r] 23))) hb)
  clear hg hge hb
  go_wp2_with (go_at_call 19; refine (law05_lives _).mono ?_; rintro e w7 ⟨rfl, hb7⟩)
  go_ret
  exact ⟨rfl, bch HB.out hb7⟩
set_option maxRecDepth 100000 in
set_option maxHeartbeats 4000000 in
theorem main (i o r f a : Int) (b : Nat) (hc : mmCheck i o r f = 0) (g0 : 0 ≤ a) (g1 : a < 4294967296) (g2 : b < 32) (w : World) : Calls Try.prog 5 #[.agg #[.int .i64 i, .int .i64 o, .int .i64 r], .int .i64 f, .int .i64 a, .int .i64 (b : Int)] w fun e w' => e = .returned (.bool true) ∧ Below w.heap.size w w' := by
  have HC := Lib.hid hc
  clear hc
  have g3 : ((b : Nat) : Int) ≤ 31 := by omega
  go_enter Try.func5, Try.ntmps5
  go_wp2_with fail
  refine (memmap_Regions_yes i o r f HC.out _).mono ?_
  rintro e w2 ⟨g, rfl, hg, hge, hb⟩
  have HS := Lib.hid (rgSl_of hg)
  have HB := Lib.hid (bch ((Below.refl _ _).alloc (Nat.le_refl _) _ : Below w.heap.size w (w.alloc (Obj.cells #[Value.int IntKind.i64 i, Value.int IntKind.i64 o, Value.int IntKind.i64 r] 23))) hb)
  clear hg hge hb
  go_wp2_with fail
  refine (memmap_Find (some ⟨g, 0, none⟩) 7 (mmRegions i o r f) a 1 true (by show 7 ≤ _; decide) (fine_of _ _ _ _ HC.out) (by omega) _ HS.out).mono ?_
  rintro e w3 ⟨rfl, hb⟩
  have HS2 := Lib.hid (HS.out.next hb)
  have HB2 := Lib.hid (bch HB.out hb)
  clear hb
  rw [show mmFind (mmRegions i o r f) a 1 true = mmSeek a 1 true (mmRegions i o r f) 0 by unfold mmFind; rw [if_neg (by decide), if_neg (by rw [Int.tmod_one]; decide)]]
  cases hp : mmSeek a 1 true (mmRegions i o r f) 0 with
  | mk p e1 =>
    have HP := Lib.hid hp
    clear hp
    unfold pairVal
    simp only
    by_cases he : e1 = 0
    · subst he
      go_wp2_with fail
      rw [flip_i64 a b g0 g1 g2]
      refine (memmap_Find (some ⟨g, 0, none⟩) 7 (mmRegions i o r f) _ 1 true (by show 7 ≤ _; decide) (fine_of _ _ _ _ HC.out) (by have := flip_lt a b g0 g1 g2; omega) _ HS2.out).mono ?_
      rintro e w4 ⟨rfl, hb⟩
      have HS3 := Lib.hid (HS2.out.next hb)
      have HB3 := Lib.hid (bch HB2.out hb)
      clear hb
      rw [find_one]
      have hfar : ∀ q, mmSeek ((a.toNat ^^^ 2 ^ b : Nat) : Int) 1 true (mmRegions i o r f) 0 = (q, 0) → q = p := fun q h => far HC.out g0 g2 HP.out h
      cases hq2 : mmSeek ((a.toNat ^^^ 2 ^ b : Nat) : Int) 1 true (mmRegions i o r f) 0 with
      | mk q e2 =>
        rw [hq2] at hfar
        have hok : ((e2 == 0) && (q != p)) = false := by
          by_cases h : e2 = 0
          · subst h; rw [hfar q rfl]; simp
          · simp [h]
        clear hfar hq2
        unfold pairVal
        simp only
        have HL := Lib.hid (lone HC.out g0 HP.out)
        by_cases h : e2 = 0
        · have hqp : (q != p) = false := by rw [h] at hok; simpa using hok
          subst h
          clear hok
          go_wp2_with fail
          go_loopw [15] (fun n wr => ∃ k : Nat, k ≤ 7 ∧ n = .int .i64 k ∧ Below w4.heap.size w4 wr) (fun n _ => 7 - (intOf n).toNat)
          case atStart => exact ⟨0, by decide, rfl, Below.refl _ _⟩
          case round =>
            obtain ⟨k, hk, rfl, hBw⟩ := hrel
            by_cases hlt : k < 7
            · obtain ⟨b', off', hA', hl1, hcell⟩ := HS3.out (by unfold mmRegions; simp)
              injection hA' with hA'
              injection hA' with hA1 hA2
              subst hA1
              subst hA2
              obtain ⟨h0, h1, h2⟩ := hcell k hlt
              rw [← hBw.cell hl1] at h0 h1 h2
              simp only [Nat.zero_add] at h0 h1 h2
              have hlone := HL.out k hlt
              have hfin := fine_of _ _ _ _ HC.out ((mmRegions i o r f).getD k rgNone) (by rw [List.getD, List.getElem?_eq_getElem hlt]; exact List.getElem_mem hlt)
              generalize (mmRegions i o r f).getD k rgNone = x at *
              obtain ⟨xb, xl, xw⟩ := x
              obtain ⟨x1, x2, x3, x4⟩ := hfin
              simp only at h0 h1 h2 hlone x1 x2 x3 x4
              have HBw := Lib.hid hBw
              have HLN := Lib.hid hlone
              clear hcell hBw hlone
              by_cases p1 : (k : Int) = p
              · have d1 : ((k : Int) != p) = false := by rw [p1]; simp
                clear p1
                go_wp2_with fail
                go_quiet (fail)
                go_wp2_with fail
                go_roundw
                case rel => exact ⟨k + 1, by omega, by go_num, below_drewN HBw.out _⟩
                case measure => simp [intOf]; omega
              · have d1 : ((k : Int) != p) = true := by rw [bne_iff_ne]; exact p1
                have hnot := HLN.out p1
                clear p1
                by_cases p2 : xb ≤ a
                · have e1 : wrap64 (xb + xl) = xb + xl := by unfold wrap64; omega
                  have e3 : IntKind.i64.wrap (xb + xl) = xb + xl := by rw [wrapi64]; exact e1
                  have d2 : decide (a < xb + xl) = false := by simp; omega
                  clear hnot
                  go_wp2_with fail
                  go_quiet (fail)
                  go_wp2_with fail
                  go_roundw
                  case rel => exact ⟨k + 1, by omega, by go_num, below_drewN HBw.out _⟩
                  case measure => simp [intOf]; omega
                · have d2 : decide (xb ≤ a) = false := by simp; omega
                  clear hnot
                  go_wp2_with fail
                  go_quiet (fail)
                  go_wp2_with fail
                  go_roundw
                  case rel => exact ⟨k + 1, by omega, by go_num, below_drewN HBw.out _⟩
                  case measure => simp [intOf]; omega
            · obtain rfl : k = 7 := by omega
              have HBw := Lib.hid hBw
              clear hBw
              go_wp2_with (go_at_call 19; refine (law05_lives _).mono ?_; rintro e w7 ⟨rfl, hb7⟩)
              go_ret
              exact ⟨rfl, bch HB3.out (bch HBw.out hb7)⟩
        · have he2 : (e2 == 0) = false := by simpa using h
          clear hok h
          go_wp2_with fail
          go_loopw [15] (fun n wr => ∃ k : Nat, k ≤ 7 ∧ n = .int .i64 k ∧ Below w4.heap.size w4 wr) (fun n _ => 7 - (intOf n).toNat)
          case atStart => exact ⟨0, by decide, rfl, Below.refl _ _⟩
          case round =>
            obtain ⟨k, hk, rfl, hBw⟩ := hrel
            by_cases hlt : k < 7
            · obtain ⟨b', off', hA', hl1, hcell⟩ := HS3.out (by unfold mmRegions; simp)
              injection hA' with hA'
              injection hA' with hA1 hA2
              subst hA1
              subst hA2
              obtain ⟨h0, h1, h2⟩ := hcell k hlt
              rw [← hBw.cell hl1] at h0 h1 h2
              simp only [Nat.zero_add] at h0 h1 h2
              have hlone := HL.out k hlt
              have hfin := fine_of _ _ _ _ HC.out ((mmRegions i o r f).getD k rgNone) (by rw [List.getD, List.getElem?_eq_getElem hlt]; exact List.getElem_mem hlt)
              generalize (mmRegions i o r f).getD k rgNone = x at *
              obtain ⟨xb, xl, xw⟩ := x
              obtain ⟨x1, x2, x3, x4⟩ := hfin
              simp only at h0 h1 h2 hlone x1 x2 x3 x4
              have HBw := Lib.hid hBw
              have HLN := Lib.hid hlone
              clear hcell hBw hlone
              by_cases p1 : (k : Int) = p
              · have d1 : ((k : Int) != p) = false := by rw [p1]; simp
                clear p1
                go_wp2_with fail
                go_quiet (fail)
                go_wp2_with fail
                go_roundw
                case rel => exact ⟨k + 1, by omega, by go_num, below_drewN HBw.out _⟩
                case measure => simp [intOf]; omega
              · have d1 : ((k : Int) != p) = true := by rw [bne_iff_ne]; exact p1
                have hnot := HLN.out p1
                clear p1
                by_cases p2 : xb ≤ a
                · have e1 : wrap64 (xb + xl) = xb + xl := by unfold wrap64; omega
                  have e3 : IntKind.i64.wrap (xb + xl) = xb + xl := by rw [wrapi64]; exact e1
                  have d2 : decide (a < xb + xl) = false := by simp; omega
                  clear hnot
                  go_wp2_with fail
                  go_quiet (fail)
                  go_wp2_with fail
                  go_roundw
                  case rel => exact ⟨k + 1, by omega, by go_num, below_drewN HBw.out _⟩
                  case measure => simp [intOf]; omega
                · have d2 : decide (xb ≤ a) = false := by simp; omega
                  clear hnot
                  go_wp2_with fail
                  go_quiet (fail)
                  go_wp2_with fail
                  go_roundw
                  case rel => exact ⟨k + 1, by omega, by go_num, below_drewN HBw.out _⟩
                  case measure => simp [intOf]; omega
            · obtain rfl : k = 7 := by omega
              have HBw := Lib.hid hBw
              clear hBw
              go_wp2_with (go_at_call 19; refine (law05_lives _).mono ?_; rintro e w7 ⟨rfl, hb7⟩)
              go_ret
              exact ⟨rfl, bch HB3.out (bch HBw.out hb7)⟩
    · have hq : (e1 != 0) = true := by rw [bne_iff_ne]; exact he
      clear he
      go_wp2_with (go_at_call 19; refine (law05_lives _).mono ?_; rintro e w7 ⟨rfl, hb7⟩)
      go_ret
      exact ⟨rfl, bch HB2.out hb7⟩
set_option maxHeartbeats 8000000 in
theorem walk (i o r f : Int) (v0 : Value) (hv : v0 = .agg #[.int .i64 i, .int .i64 o, .int .i64 r]) (a bit : Int) (ha0 : I64 a) (w : World) :
    Calls Try.prog 5 #[v0, .int .i64 f, .int .i64 a, .int .i64 bit] w fun e w' => e = .returned (.bool true) ∧ Below w.heap.size w w' := by
  subst hv
  by_cases hc : mmCheck i o r f = 0
  · by_cases h1 : a < 0
    · exact out0 i o r f a bit hc h1 w
    · by_cases h2 : 4294967296 ≤ a
      · exact out1 i o r f a bit hc (by omega) h2 w
      · by_cases h3 : bit < 0
        · exact out2 i o r f a bit hc (by omega) (by omega) h3 w
        · by_cases h4 : 31 < bit
          · exact out3 i o r f a bit hc (by omega) (by omega) (by omega) h4 w
          · obtain ⟨b, rfl⟩ := Int.eq_ofNat_of_zero_le (a := bit) (by omega)
            exact main i o r f a b hc (by omega) (by omega) (by omega) w
  · exact no i o r f a bit hc w

theorem own : ownKnob Try.prog.godebug = none := by kernel_rfl
set_option maxRecDepth 100000 in
theorem lifted (os : Os) (started : os.Started) (H : Type) (enc : TypeId × Value → H) :
    ReturnsInHanded {} Try.checked os 5 .any (Rows.memmapFarSpec.pre6 enc Try.prog Try.f5 Rows.memmapFarRow.domain false) (Rows.memmapFarSpec.post enc Try.prog Try.f5 false true false false) := by
  refine returnsInHanded_of_change_sized (C := Try.checked) own started (by kernel_rfl) Try.func5
    (ChangeSpec.witness6 (enc := enc) (C := Try.checked) false ⟨#[], #[.agg #[.int .i64 0, .int .i64 0, .int .i64 0], .int .i64 0, .int .i64 0, .int .i64 0], []⟩ 8 (by kernel_rfl) (by kernel_rfl) (by kernel_rfl) (by kernel_rfl)) ?_
  intro W base args ds gs before hval0 hW hcnd hsz _
  have hval : ∀ (j : Nat) t v, Try.f5.params[j]? = some t → args[j]? = some v → Value.okWide Try.prog W .any base t v := hval0
  have hW' := hW
  obtain ⟨p, q, hA0, hV, rfl, hfz, hnd⟩ := hW
  have hA : DataW.TrodAll enc Try.prog W 0 (fun _ => true) true Try.f5.params.toList args.toList ds p := hA0
  rw [Try.params5] at hA hval
  obtain ⟨v0, vs0, d0, ds0, p0, q0, hargs, rfl, rfl, h0, r0⟩ := trodAll_cons hA
  obtain ⟨v1, vs1, d1, ds1, p1, q1, rfl, rfl, rfl, h1, r1⟩ := trodAll_cons r0
  obtain ⟨v2, vs2, d2, ds2, p2, q2, rfl, rfl, rfl, h2, r2⟩ := trodAll_cons r1
  obtain ⟨v3, vs3, d3, ds3, p3, q3, rfl, rfl, rfl, h3, r3⟩ := trodAll_cons r2
  obtain ⟨rfl, rfl, rfl⟩ := trodAll_nil r3
  obtain rfl : args = #[v0, v1, v2, v3] := by cases args; simp_all
  obtain ⟨rfl, rfl⟩ := trodVars_none hV
  clear hA0 hval0
  obtain ⟨i, o, r, hv, _, _, _⟩ := open_sizes (hval 0 23 v0 rfl rfl) h0 (fun x hx => by simpa using hW'.lt x (by simp [hx])) (weights_of hsz 0 rfl rfl)
  obtain ⟨f, rfl, rfl, rfl, w1⟩ := open_int Try.underlying3 (hval 1 3 v1 rfl rfl) h1
  obtain ⟨a, rfl, rfl, rfl, w2⟩ := open_int Try.underlying3 (hval 2 3 v2 rfl rfl) h2
  obtain ⟨bit, rfl, rfl, rfl, w3⟩ := open_int Try.underlying3 (hval 3 3 v3 rfl rfl) h3
  refine (walk i o r f v0 hv a bit (i64_wf w2) W).mono fun e W' ⟨he, hg⟩ => ?_
  subst he
  exact ⟨_, rfl, law_post (by kernel_rfl) (by kernel_rfl) rfl (by kernel_rfl) Try.underlying4 rfl hW' hg⟩

theorem proved : Rows.MemmapFarSaid :=
  OpenClaim.holds_of_wide 5 Try.f5 rfl rfl rfl rfl rfl rfl rfl ⟨rfl, rfl, rfl, rfl, rfl⟩ rfl rfl rfl rfl rfl (by kernel_rfl) Try.func5 (by kernel_rfl)
    (of_decide_eq_true (by kernel_rfl)) (by unfold Func.isWrapper; first | (rw [if_pos (by decide +kernel)]; kernel_rfl) | (rw [if_neg (by decide +kernel)]; exact ⟨rfl, rfl⟩))
    (fun os started H enc _ => lifted os started H enc)
#print axioms proved
end Go.Proofs.Ytgipelnjbpkfjaa.memmapFar
