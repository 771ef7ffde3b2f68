/- The Go function MemoryFlash returns true on every input and leaves its arguments as they were. No condition. -/
import Derived.Test.YtgipelnjbpkfjaaRows
import Derived.WalkKit
import Derived.ProofKit
import Derived.OpenShut
import Derived.Test.YtgipelnjbpkfjaaLawKit
import Derived.SizedLaws
import Derived.Test.YtgipelnjbpkfjaaFlash
namespace Go.Proofs.Ytgipelnjbpkfjaa.memoryFlash
open Go.ChangeShapes Go.WideShapes Go.ChangeAt Go.RowKit
set_option linter.unusedVariables false

theorem great (i o r : Int) (flash input : ByteArray) (A : Option Addr) (c : Nat) (xs : List St) (at0 : Int) (hl : 60 < xs.length) (w : World) : Calls Try.prog 13 #[startVal i o r flash input, .slice A xs.length c, .int .i64 at0] w fun e w' => e = .returned (.bool true) ∧ Below w.heap.size w w' := by
  have q1 : (60 : Int) < (xs.length : Int) := by omega
  unfold startVal
  clear hl
  go_enter Try.func13, Try.ntmps13
  go_wp2_with (go_at_call 28; refine (law07_lives _).mono ?_; rintro e w1 ⟨rfl, hb1⟩)
  go_ret
  exact ⟨rfl, bch ((Below.refl _ _).alloc (Nat.le_refl _) _) hb1⟩
theorem no (i o r : Int) (flash input : ByteArray) (A : Option Addr) (c : Nat) (xs : List St) (at0 : Int) (hl : xs.length ≤ 60) (he : newErr i o r flash.size input.size ≠ 0) (w : World) : Calls Try.prog 13 #[startVal i o r flash input, .slice A xs.length c, .int .i64 at0] w fun e w' => e = .returned (.bool true) ∧ Below w.heap.size w w' := by
  have q1 : (xs.length : Int) ≤ 60 := by omega
  have HN := Lib.hid (mem_New_no i o r flash input he)
  have hq : (newErr i o r flash.size input.size != 0) = true := by rw [bne_iff_ne]; exact he
  generalize newErr i o r flash.size input.size = ne at *
  unfold startVal
  clear hl he
  go_enter Try.func13, Try.ntmps13
  go_wp2_with fail
  refine (HN.out _).mono ?_
  rintro e w1 ⟨rfl, hb1⟩
  have HB1 := Lib.hid (bch ((Below.refl _ _).alloc (Nat.le_refl _) _) hb1)
  clear hb1
  go_wp2_with (go_at_call 28; refine (law07_lives _).mono ?_; rintro e w2 ⟨rfl, hb2⟩)
  go_ret
  exact ⟨rfl, bch HB1.out hb2⟩
theorem good (i o r : Int) (flash input : ByteArray) (hil : input.size ≤ reachBytes) (A : Option Addr) (c : Nat) (xs : List St) (at0 : Int) (hat : at0 ≤ 9223372036854775807) (hl : xs.length ≤ 60) (hI : ∀ x ∈ xs, x.a ≤ 9223372036854775807) (hck : mmCheck i o r flash.size = 0) (hin : (input.size : Int) = i) (w : World) (hA : StSl w w.heap.size A xs) :
    Calls Try.prog 13 #[startVal i o r flash input, .slice A xs.length c, .int .i64 at0] w fun e w' => e = .returned (.bool true) ∧ Below w.heap.size w w' := by
  have q1 : (xs.length : Int) ≤ 60 := by omega
  have HCK := Lib.hid hck
  have HIN := Lib.hid hin
  have HA := Lib.hid hA
  have HI := Lib.hid hI
  obtain ⟨hf1, hf2⟩ := flash_kept i o r flash input xs hck hin
  have hshut := flash_shut i o r flash.size at0
  have HSH := Lib.hid hshut
  generalize hbs : playBs i o r flash.size (memInit flash input (rgAll i o r flash.size)) xs = bs at *
  have HBS := Lib.hid hbs
  have HF1 := Lib.hid hf1
  have hq2 : (((rgBytes i o r flash.size bs 1).size : Int) != (input.size : Int)) = false := by rw [bne_eq_false_iff_eq]; omega
  have hq3 : ((rgBytes i o r flash.size bs 1).size != input.size) = false := by rw [bne_eq_false_iff_eq]; exact hf2
  generalize hT : rgBytes i o r flash.size bs 1 = T at *
  have HT := Lib.hid hT
  unfold startVal
  clear hck hin hA hI hf1 hf2 hshut hbs hl hT
  go_enter Try.func13, Try.ntmps13
  go_wp2_with fail
  refine (mem_New_yes i o r flash input HCK.out HIN.out _).mono ?_
  rintro e w1 ⟨M, gb, rfl, hm, hge, hb1⟩
  have hge1 : w.heap.size + 1 ≤ gb := by simpa using hge
  have hx := (hb1.block w.heap.size (by simp)).trans (heap_alloc_new w _)
  have HX1 := Lib.hid hx
  have HM1 := Lib.hid hm
  have HB1 := Lib.hid (bch ((Below.refl _ _).alloc (Nat.le_refl _) _) hb1)
  have HA1 := Lib.hid (HA.out.below (bch ((Below.refl _ _).alloc (Nat.le_refl _) _) hb1) (Nat.le_refl _))
  clear hm hb1 hx hge
  go_wp2_with fail
  refine (law07_play M gb i o r flash.size _ HCK.out A c xs w.heap.size (by omega) (by omega) HI.out _ HA1.out HM1.out).mono ?_
  rintro e w2 ⟨v, rfl, hk2, hm2, _⟩
  rw [HBS.out] at hm2
  have hx := (hk2.block w.heap.size (lt_of_blk HX1.out) (by intro e; injection e with e; omega)).trans HX1.out
  have HX2 := Lib.hid hx
  have c3 : w2.cell? ⟨w.heap.size, 3, none⟩ = some (.string flash) := (cell_of_blk hx 3).1
  have c4 : w2.cell? ⟨w.heap.size, 4, none⟩ = some (.string input) := (cell_of_blk hx 4).1
  have HM2 := Lib.hid hm2
  have HB2 := Lib.hid (HB1.out.grown hk2 HB1.out.size (fun b e => by injection e with e; omega))
  clear hk2 hm2 hx
  go_wp2_with fail
  refine (mem_Region_yes M gb i o r flash.size 0 bs (by decide) _ HM2.out).mono ?_
  rintro e w3 ⟨rfl, rfl⟩
  rw [HF1.out]
  go_wp2_with fail
  refine (mem_Region_yes M gb i o r flash.size 1 bs (by decide) _ HM2.out).mono ?_
  rintro e w3 ⟨rfl, rfl⟩
  rw [HT.out]
  by_cases ha : 0 ≤ at0 ∧ at0 < 262144
  · obtain ⟨ha0, ha1⟩ := ha
    have HST := Lib.hid (mem_Store M gb i o r flash.size at0 1 7 bs HCK.out hat w2 HM2.out)
    rw [HSH.out ha0 ha1] at HST
    go_wp2_with fail
    refine HST.out.mono ?_
    rintro e w4 ⟨rfl, hm4, hk4⟩
    have HB4 := Lib.hid (HB2.out.grown hk4 HB2.out.size (fun b e => by injection e with e; omega))
    clear hm4 hk4 c3 c4
    go_wp2_with (first | (go_at_call 33; refine (mem_Load_nil _ _ _).mono ?_; rintro e w' ⟨rfl, rfl⟩) | (go_at_call 36; refine (mem_Region_nil _ _).mono ?_; rintro e w' ⟨rfl, rfl⟩) | (go_at_call 34; refine (mem_Store_nil _ _ _ _).mono ?_; rintro e w' ⟨rfl, rfl⟩) | (go_at_call 28; refine (law07_lives _).mono ?_; rintro e w5 ⟨rfl, hb5⟩))
    go_ret
    exact ⟨rfl, bch HB4.out hb5⟩
  · have ha2 : at0 < 0 ∨ 262144 ≤ at0 := by omega
    clear ha
    rcases ha2 with ha | ha
    all_goals
      go_wp2_with (first | (go_at_call 33; refine (mem_Load_nil _ _ _).mono ?_; rintro e w' ⟨rfl, rfl⟩) | (go_at_call 36; refine (mem_Region_nil _ _).mono ?_; rintro e w' ⟨rfl, rfl⟩) | (go_at_call 34; refine (mem_Store_nil _ _ _ _).mono ?_; rintro e w' ⟨rfl, rfl⟩) | (go_at_call 28; refine (law07_lives _).mono ?_; rintro e w5 ⟨rfl, hb5⟩))
      go_ret
      exact ⟨rfl, bch HB2.out hb5⟩
set_option maxHeartbeats 8000000 in
theorem walk (i o r : Int) (flash input : ByteArray) (v0 : Value) (hv : v0 = startVal i o r flash input) (hfl : flash.size ≤ reachBytes) (hil : input.size ≤ reachBytes) (A : Option Addr) (c : Nat) (xs : List St) (v1 : Value) (hv1 : v1 = .slice A xs.length c) (hI : ∀ x ∈ xs, x.a ≤ 9223372036854775807) (at0 : Int) (hat : at0 ≤ 9223372036854775807) (w : World) (hA : StSl w w.heap.size A xs) :
    Calls Try.prog 13 #[v0, v1, .int .i64 at0] w fun e w' => e = .returned (.bool true) ∧ Below w.heap.size w w' := by
  subst hv hv1
  by_cases hl : 60 < xs.length
  · exact great i o r flash input A c xs at0 hl w
  · by_cases he : newErr i o r flash.size input.size = 0
    · have h1 : mmCheck i o r flash.size = 0 ∧ (input.size : Int) = i := by
        unfold newErr at he
        by_cases h2 : mmCheck i o r flash.size = 0
        · rw [if_neg (by simpa using h2)] at he
          by_cases h3 : (input.size : Int) = i
          · exact ⟨h2, h3⟩
          · rw [if_pos h3] at he; exact absurd he (by decide)
        · rw [if_pos h2] at he; exact absurd he h2
      exact good i o r flash input hil A c xs at0 hat (by omega) hI h1.1 h1.2 w hA
    · exact no i o r flash input A c xs at0 (by omega) he w

theorem own : ownKnob Try.prog.godebug = none := by kernel_rfl
set_option maxRecDepth 100000 in
theorem lifted (os : Os) (started : os.Started) (H : Type) (enc : TypeId × Value → H) :
    ReturnsInHanded {} Try.checked os 13 .any (Rows.memoryFlashSpec.pre6 enc Try.prog Try.f13 Rows.memoryFlashRow.domain false) (Rows.memoryFlashSpec.post enc Try.prog Try.f13 false true false false) := by
  refine returnsInHanded_of_change_sized (C := Try.checked) own started (by kernel_rfl) Try.func13
    (ChangeSpec.witness6 (enc := enc) (C := Try.checked) false ⟨#[], #[.agg #[.int .i64 0, .int .i64 0, .int .i64 0, .string ⟨#[]⟩, .string ⟨#[]⟩], .slice none 0 0, .int .i64 0], []⟩ 8 (by kernel_rfl) (by kernel_rfl) (by kernel_rfl) (by kernel_rfl)) ?_
  intro W base args ds gs before hval0 hW hcnd hsz _
  have hval : ∀ (j : Nat) t v, Try.f13.params[j]? = some t → args[j]? = some v → Value.okWide Try.prog W .any base t v := hval0
  have hW' := hW
  obtain ⟨p, q, hA0, hV, rfl, hfz, hnd⟩ := hW
  have hA : DataW.TrodAll enc Try.prog W 0 (fun _ => true) true Try.f13.params.toList args.toList ds p := hA0
  rw [Try.params13] at hA hval
  obtain ⟨v0, vs0, d0, ds0, p0, q0, hargs, rfl, rfl, h0, r0⟩ := trodAll_cons hA
  obtain ⟨v1, vs1, d1, ds1, p1, q1, rfl, rfl, rfl, h1, r1⟩ := trodAll_cons r0
  obtain ⟨v2, vs2, d2, ds2, p2, q2, rfl, rfl, rfl, h2, r2⟩ := trodAll_cons r1
  obtain ⟨rfl, rfl, rfl⟩ := trodAll_nil r2
  obtain rfl : args = #[v0, v1, v2] := by cases args; simp_all
  obtain ⟨rfl, rfl⟩ := trodVars_none hV
  clear hA0 hval0
  obtain ⟨i, o, r, flash, input, hv, _, _, _, hfl, hil⟩ := open_start (hval 0 63 v0 rfl rfl) h0 (fun x hx => by simpa using hW'.lt x (by simp [hx])) (weights_of hsz 0 rfl rfl)
  obtain ⟨A, c, xs, hv1, hc1, _, hc2, hE, hI⟩ := open_steps (hval 1 64 v1 rfl rfl) h1 (fun x hx => by simpa using hW'.lt x (by simp [hx])) (weights_of hsz 1 rfl rfl)
  obtain ⟨at0, rfl, rfl, rfl, w2⟩ := open_int Try.underlying3 (hval 2 3 v2 rfl rfl) h2
  refine (walk i o r flash input v0 hv hfl hil A c xs v1 hv1 hI at0 (i64_wf w2).2 W hE).mono fun e W' ⟨he, hg⟩ => ?_
  subst he
  exact ⟨_, rfl, law_post (by kernel_rfl) (by kernel_rfl) rfl (by kernel_rfl) Try.underlying4 rfl hW' hg⟩

theorem proved : Rows.MemoryFlashSaid :=
  OpenClaim.holds_of_wide 13 Try.f13 rfl rfl rfl rfl rfl rfl rfl ⟨rfl, rfl, rfl, rfl, rfl⟩ rfl rfl rfl rfl rfl (by kernel_rfl) Try.func13 (by kernel_rfl)
    (of_decide_eq_true (by kernel_rfl)) (by unfold Func.isWrapper; first | (rw [if_pos (by decide +kernel)]; kernel_rfl) | (rw [if_neg (by decide +kernel)]; exact ⟨rfl, rfl⟩))
    (fun os started H enc _ => lifted os started H enc)
#print axioms proved
end Go.Proofs.Ytgipelnjbpkfjaa.memoryFlash
