/- The Go function MemoryRegions returns true on every input and leaves its arguments as they were. No condition. -/
import Derived.Test.YtgipelnjbpkfjaaRows
import Derived.WalkKit
import Derived.ProofKit
import Derived.OpenShut
import Derived.Test.YtgipelnjbpkfjaaLawKit
import Derived.SizedLaws
import Derived.Test.YtgipelnjbpkfjaaRefRegion
namespace Go.Proofs.Ytgipelnjbpkfjaa.memoryRegions
open Go.ChangeShapes Go.WideShapes Go.ChangeAt Go.RowKit
set_option linter.unusedVariables false

def fewB (i o r : Int) (f n : Nat) : Bool := decide (n ≤ 60) && decide (f ≤ 2000) && decide (i ≤ 2000) && decide (o ≤ 2000) && decide (r ≤ 2000)
set_option maxHeartbeats 4000000 in
theorem law07_few (i o r : Int) (flash input : ByteArray) (A : Option Addr) (n c : Nat) (w : World) : Calls Try.prog 35 #[startVal i o r flash input, .slice A n c] w fun e w' => e = .returned (.bool (fewB i o r flash.size n)) ∧ Below w.heap.size w w' := by
  unfold startVal
  go_enter Try.func35, Try.ntmps35
  by_cases h1 : (n : Int) ≤ 60
  · by_cases h2 : (flash.size : Int) ≤ 2000
    · by_cases h3 : i ≤ 2000
      · by_cases h4 : o ≤ 2000
        · by_cases h5 : r ≤ 2000
          · go_wp2
            go_ret
            exact ⟨by unfold fewB; rw [decide_eq_true (show n ≤ 60 by omega), decide_eq_true (show flash.size ≤ 2000 by omega), decide_eq_true h3, decide_eq_true h4, decide_eq_true h5]; rfl, bnew _ _⟩
          · go_wp2
            go_ret
            exact ⟨by unfold fewB; rw [decide_eq_false (show ¬ r ≤ 2000 by omega)]; simp, bnew _ _⟩
        · go_wp2
          go_ret
          exact ⟨by unfold fewB; rw [decide_eq_false (show ¬ o ≤ 2000 by omega)]; simp, bnew _ _⟩
      · go_wp2
        go_ret
        exact ⟨by unfold fewB; rw [decide_eq_false (show ¬ i ≤ 2000 by omega)]; simp, bnew _ _⟩
    · go_wp2
      go_ret
      exact ⟨by unfold fewB; rw [decide_eq_false (show ¬ flash.size ≤ 2000 by omega)]; simp, bnew _ _⟩
  · go_wp2
    go_ret
    exact ⟨by unfold fewB; rw [decide_eq_false (show ¬ n ≤ 60 by omega)]; simp, bnew _ _⟩
theorem great (i o r : Int) (flash input : ByteArray) (A : Option Addr) (c : Nat) (xs : List St) (k : Int) (hl : fewB i o r flash.size xs.length = false) (w : World) : Calls Try.prog 12 #[startVal i o r flash input, .slice A xs.length c, .int .i64 k] w fun e w' => e = .returned (.bool true) ∧ Below w.heap.size w w' := by
  have HFW := Lib.hid (fun W => law07_few i o r flash input A xs.length c W)
  have HFV := Lib.hid hl
  generalize fewB i o r flash.size xs.length = fv at *
  unfold startVal at *
  clear hl
  go_enter Try.func12, Try.ntmps12
  go_wp2_with fail
  refine (HFW.out _).mono ?_
  rintro e w0 ⟨rfl, hb0⟩
  rw [HFV.out]
  have hx0 := (hb0.block w.heap.size (by simp)).trans (heap_alloc_new w _)
  have HX0 := Lib.hid hx0
  have a0 : w0.cell? ⟨w.heap.size, 0, none⟩ = some (.int .i64 i) := (cell_of_blk hx0 0).1
  have a1 : w0.cell? ⟨w.heap.size, 1, none⟩ = some (.int .i64 o) := (cell_of_blk hx0 1).1
  have a2 : w0.cell? ⟨w.heap.size, 2, none⟩ = some (.int .i64 r) := (cell_of_blk hx0 2).1
  have a3 : w0.cell? ⟨w.heap.size, 3, none⟩ = some (.string flash) := (cell_of_blk hx0 3).1
  have a4 : w0.cell? ⟨w.heap.size, 4, none⟩ = some (.string input) := (cell_of_blk hx0 4).1
  have HB0 := Lib.hid (bch ((Below.refl _ _).alloc (Nat.le_refl _) _) hb0)
  clear hb0 hx0
  go_wp2_with (go_at_call 28; refine (law07_lives _).mono ?_; rintro e wl ⟨rfl, hbl⟩)
  go_ret
  exact ⟨rfl, bch HB0.out hbl⟩
theorem no (i o r : Int) (hr : -9223372036854775808 ≤ r ∧ r ≤ 9223372036854775807) (flash input : ByteArray) (A : Option Addr) (c : Nat) (xs : List St) (k : Int) (hl : fewB i o r flash.size xs.length = true) (he : newErr i o r flash.size input.size ≠ 0) (w : World) : Calls Try.prog 12 #[startVal i o r flash input, .slice A xs.length c, .int .i64 k] w fun e w' => e = .returned (.bool true) ∧ Below w.heap.size w w' := by
  have HFW := Lib.hid (fun W => law07_few i o r flash input A xs.length c W)
  have HFV := Lib.hid hl
  generalize fewB i o r flash.size xs.length = fv at *
  have HN := Lib.hid (mem_New_no i o r flash input he)
  have HRN := Lib.hid (fun W => ref07_New i o r flash input hr W)
  have hq : (newErr i o r flash.size input.size != 0) = true := by rw [bne_iff_ne]; exact he
  generalize newErr i o r flash.size input.size = ne at *
  unfold startVal at *
  clear hl he hr
  go_enter Try.func12, Try.ntmps12
  go_wp2_with fail
  refine (HFW.out _).mono ?_
  rintro e w0 ⟨rfl, hb0⟩
  rw [HFV.out]
  have hx0 := (hb0.block w.heap.size (by simp)).trans (heap_alloc_new w _)
  have HX0 := Lib.hid hx0
  have a0 : w0.cell? ⟨w.heap.size, 0, none⟩ = some (.int .i64 i) := (cell_of_blk hx0 0).1
  have a1 : w0.cell? ⟨w.heap.size, 1, none⟩ = some (.int .i64 o) := (cell_of_blk hx0 1).1
  have a2 : w0.cell? ⟨w.heap.size, 2, none⟩ = some (.int .i64 r) := (cell_of_blk hx0 2).1
  have a3 : w0.cell? ⟨w.heap.size, 3, none⟩ = some (.string flash) := (cell_of_blk hx0 3).1
  have a4 : w0.cell? ⟨w.heap.size, 4, none⟩ = some (.string input) := (cell_of_blk hx0 4).1
  have HB0 := Lib.hid (bch ((Below.refl _ _).alloc (Nat.le_refl _) _) hb0)
  clear hb0 hx0
  go_wp2_with fail
  refine (HN.out _).mono ?_
  rintro e w1 ⟨rfl, hb1⟩
  have hx := (hb1.block w.heap.size (lt_of_blk HX0.out)).trans HX0.out
  have c0 : w1.cell? ⟨w.heap.size, 0, none⟩ = some (.int .i64 i) := (cell_of_blk hx 0).1
  have c1 : w1.cell? ⟨w.heap.size, 1, none⟩ = some (.int .i64 o) := (cell_of_blk hx 1).1
  have c2 : w1.cell? ⟨w.heap.size, 2, none⟩ = some (.int .i64 r) := (cell_of_blk hx 2).1
  have c3 : w1.cell? ⟨w.heap.size, 3, none⟩ = some (.string flash) := (cell_of_blk hx 3).1
  have c4 : w1.cell? ⟨w.heap.size, 4, none⟩ = some (.string input) := (cell_of_blk hx 4).1
  have HB1 := Lib.hid (bch HB0.out hb1)
  clear hb1 hx a0 a1 a2 a3 a4
  go_wp2_with fail
  refine (HRN.out _).mono ?_
  rintro e w2 ⟨rfl, hb2⟩
  have HB2 := Lib.hid (bch HB1.out hb2)
  clear hb2 c0 c1 c2 c3 c4
  go_wp2_with (go_at_call 28; refine (law07_lives _).mono ?_; rintro e wl ⟨rfl, hbl⟩)
  go_ret
  exact ⟨rfl, bch HB2.out hbl⟩
set_option maxHeartbeats 4000000 in
set_option maxRecDepth 100000 in
theorem good (i o r : Int) (hr : -9223372036854775808 ≤ r ∧ r ≤ 9223372036854775807) (flash input : ByteArray) (A : Option Addr) (c : Nat) (xs : List St) (k : Int) (hf : fewB i o r flash.size xs.length = true) (hI : ∀ x ∈ xs, x.a ≤ 9223372036854775807) (hck : mmCheck i o r flash.size = 0) (hin : (input.size : Int) = i) (w : World) (hA : StSl w w.heap.size A xs) : Calls Try.prog 12 #[startVal i o r flash input, .slice A xs.length c, .int .i64 k] w fun e w' => e = .returned (.bool true) ∧ Below w.heap.size w w' := by
  have hl : xs.length ≤ 60 := by
    unfold fewB at hf
    simp only [Bool.and_eq_true, decide_eq_true_eq] at hf
    exact hf.1.1.1.1
  have HFW := Lib.hid (fun W => law07_few i o r flash input A xs.length c W)
  have HFV := Lib.hid hf
  generalize fewB i o r flash.size xs.length = fv at *
  have hne : newErr i o r flash.size input.size = 0 := by unfold newErr; rw [if_neg (by omega), if_neg (by omega)]
  have HRN := Lib.hid (fun W => ref07_New i o r flash input hr W)
  rw [hne] at HRN
  have HRP := Lib.hid (fun (kn : Nat) (hk : kn < 7) W h => ref07_Region i o r flash input A c xs kn hk hr hck hin hI (by omega) W h)
  have HCK := Lib.hid hck
  have HIN := Lib.hid hin
  have HA := Lib.hid hA
  have HPLAY := Lib.hid (fun M gb (h : w.heap.size ≤ gb) W h1 h2 => law07_play M gb i o r flash.size (startBs i o r flash input) hck A c xs w.heap.size h (by omega) hI W h1 h2)
  have hq1 : (xs.length : Int) ≤ 60 := by omega
  unfold PlayPost PlayRel at HPLAY
  unfold startVal at *
  generalize playBs i o r flash.size (startBs i o r flash input) xs = pb at *
  generalize playAns i o r flash.size (startBs i o r flash input) xs = la at *
  clear hck hin hA hI hl hr hne hf
  go_enter Try.func12, Try.ntmps12
  go_wp2_with fail
  refine (HFW.out _).mono ?_
  rintro e w0 ⟨rfl, hb0⟩
  rw [HFV.out]
  have hx0 := (hb0.block w.heap.size (by simp)).trans (heap_alloc_new w _)
  have HX0 := Lib.hid hx0
  have a0 : w0.cell? ⟨w.heap.size, 0, none⟩ = some (.int .i64 i) := (cell_of_blk hx0 0).1
  have a1 : w0.cell? ⟨w.heap.size, 1, none⟩ = some (.int .i64 o) := (cell_of_blk hx0 1).1
  have a2 : w0.cell? ⟨w.heap.size, 2, none⟩ = some (.int .i64 r) := (cell_of_blk hx0 2).1
  have a3 : w0.cell? ⟨w.heap.size, 3, none⟩ = some (.string flash) := (cell_of_blk hx0 3).1
  have a4 : w0.cell? ⟨w.heap.size, 4, none⟩ = some (.string input) := (cell_of_blk hx0 4).1
  have HB0 := Lib.hid (bch ((Below.refl _ _).alloc (Nat.le_refl _) _) hb0)
  clear hb0 hx0
  go_wp2_with fail
  refine (mem_New_yes i o r flash input HCK.out HIN.out _).mono ?_
  rintro e w1 ⟨M, gb, rfl, hm, hge, hb1⟩
  have hge1 : w.heap.size + 1 ≤ gb := by have := lt_of_blk HX0.out; omega
  have hx := (hb1.block w.heap.size (lt_of_blk HX0.out)).trans HX0.out
  have HX1 := Lib.hid hx
  have c0 : w1.cell? ⟨w.heap.size, 0, none⟩ = some (.int .i64 i) := (cell_of_blk hx 0).1
  have c1 : w1.cell? ⟨w.heap.size, 1, none⟩ = some (.int .i64 o) := (cell_of_blk hx 1).1
  have c2 : w1.cell? ⟨w.heap.size, 2, none⟩ = some (.int .i64 r) := (cell_of_blk hx 2).1
  have c3 : w1.cell? ⟨w.heap.size, 3, none⟩ = some (.string flash) := (cell_of_blk hx 3).1
  have c4 : w1.cell? ⟨w.heap.size, 4, none⟩ = some (.string input) := (cell_of_blk hx 4).1
  have HM1 : Hid (MemAt w1 M gb i o r flash.size (startBs i o r flash input)) := Lib.hid hm
  have HB1 := Lib.hid (bch HB0.out hb1)
  clear hm hb1 hx hge a0 a1 a2 a3 a4
  go_wp2_with fail
  refine (HRN.out _).mono ?_
  rintro e w2 ⟨rfl, hb2⟩
  have HX2 := Lib.hid ((hb2.block _ (lt_of_blk HX1.out)).trans HX1.out)
  have HM2 : Hid (MemAt w2 M gb i o r flash.size (startBs i o r flash input)) := Lib.hid (HM1.out.below hb2)
  have HB2 := Lib.hid (bch HB1.out hb2)
  have HSA : Hid (StSl w2 w.heap.size A xs) := Lib.hid (HA.out.below HB2.out (Nat.le_refl _))
  clear hb2 c0 c1 c2 c3 c4
  go_wp2_with fail
  refine (HPLAY.out M gb (by omega) _ HSA.out HM2.out).mono ?_
  rintro e w3 ⟨va, rfl, hk3, hm3, _⟩
  have hx := (hk3.block w.heap.size (lt_of_blk HX2.out) (by intro e; injection e with e; omega)).trans HX2.out
  have c0 : w3.cell? ⟨w.heap.size, 0, none⟩ = some (.int .i64 i) := (cell_of_blk hx 0).1
  have c1 : w3.cell? ⟨w.heap.size, 1, none⟩ = some (.int .i64 o) := (cell_of_blk hx 1).1
  have c2 : w3.cell? ⟨w.heap.size, 2, none⟩ = some (.int .i64 r) := (cell_of_blk hx 2).1
  have c3 : w3.cell? ⟨w.heap.size, 3, none⟩ = some (.string flash) := (cell_of_blk hx 3).1
  have c4 : w3.cell? ⟨w.heap.size, 4, none⟩ = some (.string input) := (cell_of_blk hx 4).1
  have hb3 := HB2.out.grown hk3 HB2.out.size (fun b e => by injection e with e; omega)
  have HB3 := Lib.hid hb3
  have HSL : Hid (StSl w3 w3.heap.size A xs) := Lib.hid ((HA.out.below hb3 (Nat.le_refl _)).more hb3.size)
  have HM3 := Lib.hid hm3
  clear hk3 hm3 hx hb3
  by_cases hk : k < 0 ∨ 6 < k
  · have HRG := Lib.hid (fun W h => mem_Region_no M gb i o r flash.size k pb hk W h)
    go_wp2_with fail
    refine (HRG.out _ HM3.out).mono ?_
    rintro e w4 ⟨rfl, rfl⟩
    rcases hk with hk | hk
    · go_wp2_with (go_at_call 28; refine (law07_lives _).mono ?_; rintro e wl ⟨rfl, hbl⟩)
      go_ret
      exact ⟨rfl, bch HB3.out hbl⟩
    · have hk0 : 0 ≤ k := by omega
      go_wp2_with (go_at_call 28; refine (law07_lives _).mono ?_; rintro e wl ⟨rfl, hbl⟩)
      go_ret
      exact ⟨rfl, bch HB3.out hbl⟩
  · obtain ⟨kn, rfl⟩ : ∃ kn : Nat, k = (kn : Int) := ⟨k.toNat, by omega⟩
    have hk7 : kn < 7 := by omega
    have HRG := Lib.hid (fun W h => mem_Region_yes M gb i o r flash.size kn pb hk7 W h)
    have HRR := Lib.hid (HRP.out kn hk7)
    have k0 : (0 : Int) ≤ (kn : Int) := by omega
    have k6 : (kn : Int) ≤ 6 := by omega
    generalize rgBytes i o r flash.size pb kn = T at *
    clear hk
    go_wp2_with fail
    refine (HRG.out _ HM3.out).mono ?_
    rintro e w4 ⟨rfl, rfl⟩
    go_wp2_with fail
    refine (HRR.out _ HSL.out).mono ?_
    rintro e w5 ⟨rfl, hb5⟩
    have HB5 := Lib.hid (bch HB3.out hb5)
    clear hb5
    go_wp2_with (go_at_call 28; refine (law07_lives _).mono ?_; rintro e wl ⟨rfl, hbl⟩)
    go_ret
    exact ⟨rfl, bch HB5.out hbl⟩
set_option maxHeartbeats 8000000 in
theorem walk (i o r : Int) (hr : -9223372036854775808 ≤ r ∧ r ≤ 9223372036854775807) (flash input : ByteArray) (v0 : Value) (hv : v0 = startVal i o r flash input) (A : Option Addr) (c : Nat) (xs : List St) (v1 : Value) (hv1 : v1 = .slice A xs.length c) (hI : ∀ x ∈ xs, x.a ≤ 9223372036854775807) (k : Int) (w : World) (hA : StSl w w.heap.size A xs) :
    Calls Try.prog 12 #[v0, v1, .int .i64 k] w fun e w' => e = .returned (.bool true) ∧ Below w.heap.size w w' := by
  subst hv hv1
  by_cases hl : fewB i o r flash.size xs.length = true
  · by_cases he : newErr i o r flash.size input.size = 0
    · have h1 : mmCheck i o r flash.size = 0 ∧ (input.size : Int) = i := by
        unfold newErr at he
        by_cases h2 : mmCheck i o r flash.size = 0
        · rw [if_neg (by simpa using h2)] at he
          by_cases h3 : (input.size : Int) = i
          · exact ⟨h2, h3⟩
          · rw [if_pos h3] at he; exact absurd he (by decide)
        · rw [if_pos h2] at he; exact absurd he h2
      exact good i o r hr flash input A c xs k hl hI h1.1 h1.2 w hA
    · exact no i o r hr flash input A c xs k hl he w
  · exact great i o r flash input A c xs k (by simpa using hl) w

theorem own : ownKnob Try.prog.godebug = none := by kernel_rfl
set_option maxRecDepth 100000 in
theorem lifted (os : Os) (started : os.Started) (H : Type) (enc : TypeId × Value → H) :
    ReturnsInHanded {} Try.checked os 12 .any (Rows.memoryRegionsSpec.pre6 enc Try.prog Try.f12 Rows.memoryRegionsRow.domain false) (Rows.memoryRegionsSpec.post enc Try.prog Try.f12 false true false false) := by
  refine returnsInHanded_of_change_sized (C := Try.checked) own started (by kernel_rfl) Try.func12
    (ChangeSpec.witness6 (enc := enc) (C := Try.checked) false ⟨#[], #[.agg #[.int .i64 0, .int .i64 0, .int .i64 0, .string ⟨#[]⟩, .string ⟨#[]⟩], .slice none 0 0, .int .i64 0], []⟩ 8 (by kernel_rfl) (by kernel_rfl) (by kernel_rfl) (by kernel_rfl)) ?_
  intro W base args ds gs before hval0 hW hcnd hsz _
  have hval : ∀ (j : Nat) t v, Try.f12.params[j]? = some t → args[j]? = some v → Value.okWide Try.prog W .any base t v := hval0
  have hW' := hW
  obtain ⟨p, q, hA0, hV, rfl, hfz, hnd⟩ := hW
  have hA : DataW.TrodAll enc Try.prog W 0 (fun _ => true) true Try.f12.params.toList args.toList ds p := hA0
  rw [Try.params12] at hA hval
  obtain ⟨v0, vs0, d0, ds0, p0, q0, hargs, rfl, rfl, h0, r0⟩ := trodAll_cons hA
  obtain ⟨v1, vs1, d1, ds1, p1, q1, rfl, rfl, rfl, h1, r1⟩ := trodAll_cons r0
  obtain ⟨v2, vs2, d2, ds2, p2, q2, rfl, rfl, rfl, h2, r2⟩ := trodAll_cons r1
  obtain ⟨rfl, rfl, rfl⟩ := trodAll_nil r2
  obtain rfl : args = #[v0, v1, v2] := by cases args; simp_all
  obtain ⟨rfl, rfl⟩ := trodVars_none hV
  clear hA0 hval0
  obtain ⟨i, o, r, flash, input, hv, _, _, hr, _, _⟩ := open_start (hval 0 63 v0 rfl rfl) h0 (fun x hx => by simpa using hW'.lt x (by simp [hx])) (weights_of hsz 0 rfl rfl)
  obtain ⟨A, c, xs, hv1, hc1, _, hc2, hE, hI⟩ := open_steps (hval 1 64 v1 rfl rfl) h1 (fun x hx => by simpa using hW'.lt x (by simp [hx])) (weights_of hsz 1 rfl rfl)
  obtain ⟨k, rfl, rfl, rfl, w2⟩ := open_int Try.underlying3 (hval 2 3 v2 rfl rfl) h2
  refine (walk i o r hr flash input v0 hv A c xs v1 hv1 hI k W hE).mono fun e W' ⟨he, hg⟩ => ?_
  subst he
  exact ⟨_, rfl, law_post (by kernel_rfl) (by kernel_rfl) rfl (by kernel_rfl) Try.underlying4 rfl hW' hg⟩

theorem proved : Rows.MemoryRegionsSaid :=
  OpenClaim.holds_of_wide 12 Try.f12 rfl rfl rfl rfl rfl rfl rfl ⟨rfl, rfl, rfl, rfl, rfl⟩ rfl rfl rfl rfl rfl (by kernel_rfl) Try.func12 (by kernel_rfl)
    (of_decide_eq_true (by kernel_rfl)) (by unfold Func.isWrapper; first | (rw [if_pos (by decide +kernel)]; kernel_rfl) | (rw [if_neg (by decide +kernel)]; exact ⟨rfl, rfl⟩))
    (fun os started H enc _ => lifted os started H enc)
#print axioms proved
end Go.Proofs.Ytgipelnjbpkfjaa.memoryRegions
